/-
  No cell of these rows narrows 'for every input' (looked for: loops, veiled, ifaces, maps, wideKeys, modest, calm, conditions, laid).
  DERIVED. THE GIVEN ROWS OF THIS SEAT. 12 by the template 'for every input the law returns true; each argument reads behind the call as it read before'; 0 by the template 'total and deterministic' (their statements: YtmngkodejlhalaaTotals.lean).
  GIVEN WITH THE SEED: the statements are not yours to turn. If you find one false, say at which input.
  Laid BY PROGRAM, IN A SANDBOX (cutbox-rows.mjs): the forced cells as the released guide's own fill.sh prints them over the translation 89cc149b3a8ff309… (all of the seat's roots in one cut). By AI agents, Wed Nov 11 2026. No macro, syntax, notation, axiom, sorry.
-/
import Derived.Test.YtmngkodejlhalaaChecked
import GoSem.Claim
import GoSem.ClaimJoined
import GoSem.ClaimMapViews
import Derived.JoinedTies
import Derived.KernelRfl
namespace Go.Proofs.Ytmngkodejlhalaa
/- THE CELL 'sum', in the pinned program and in every row, IS THE sha256 OF THE DUMP (.gsa) THAT YtmngkodejlhalaaProg.lean LOADS. Nothing in Lean hashes anything: it is a label: what it is worth is what the hold of that sum in a sandbox is worth. -/
noncomputable def Try.pinned : Pinned := { name := "ytmngkodejlhalaa", sum := "89cc149b3a8ff3099507eab5132e65a52880e84742e8c111a720765ac1ef4940", checked := Try.checked }
namespace Rows
def none {H : Type} : Left H := { results := [], args := [] }

/-- 'tallowlaw11.ReachFinds': WHATEVER THE INPUT: true; the input reads as it did. -/
def reachFindsSpec : ChangeSpec := { name := "reachFinds", fn := fun _ => fun
  | [d1, d2] => { results := [.lit (.bool true)], args := [d1, d2] }
  | _ => none }
def reachFindsRow : OpenClaim := { program := "ytmngkodejlhalaa", sum := "89cc149b3a8ff3099507eab5132e65a52880e84742e8c111a720765ac1ef4940", func := "tallow/tallowlaw11.ReachFinds", spec := "reachFinds", unfollowed := true, recurses := true, apart := false }
def ReachFindsSaid : Prop := reachFindsRow.holds Try.pinned (OpenSpec.ofChange reachFindsSpec)

/-- ITS FALSE NEIGHBOUR: 'it returns false'. Refute it at one input. -/
def reachFindsWrong : ChangeSpec := { name := "reachFinds", fn := fun _ => fun
  | [d1, d2] => { results := [.lit (.bool false)], args := [d1, d2] }
  | _ => none }
def ReachFindsWrongFalsely : Prop := reachFindsRow.holds Try.pinned (OpenSpec.ofChange reachFindsWrong)

/-- 'tallowlaw11.ReachPaths': WHATEVER THE INPUT: true; the input reads as it did. -/
def reachPathsSpec : ChangeSpec := { name := "reachPaths", fn := fun _ => fun
  | [d1, d2, d3] => { results := [.lit (.bool true)], args := [d1, d2, d3] }
  | _ => none }
def reachPathsRow : OpenClaim := { program := "ytmngkodejlhalaa", sum := "89cc149b3a8ff3099507eab5132e65a52880e84742e8c111a720765ac1ef4940", func := "tallow/tallowlaw11.ReachPaths", spec := "reachPaths", unfollowed := true, recurses := true, apart := false }
def ReachPathsSaid : Prop := reachPathsRow.holds Try.pinned (OpenSpec.ofChange reachPathsSpec)

/-- ITS FALSE NEIGHBOUR: 'it returns false'. Refute it at one input. -/
def reachPathsWrong : ChangeSpec := { name := "reachPaths", fn := fun _ => fun
  | [d1, d2, d3] => { results := [.lit (.bool false)], args := [d1, d2, d3] }
  | _ => none }
def ReachPathsWrongFalsely : Prop := reachPathsRow.holds Try.pinned (OpenSpec.ofChange reachPathsWrong)

/-- 'tallowlaw11.ReachCloses': WHATEVER THE INPUT: true; the input reads as it did. -/
def reachClosesSpec : ChangeSpec := { name := "reachCloses", fn := fun _ => fun
  | [d1, d2] => { results := [.lit (.bool true)], args := [d1, d2] }
  | _ => none }
def reachClosesRow : OpenClaim := { program := "ytmngkodejlhalaa", sum := "89cc149b3a8ff3099507eab5132e65a52880e84742e8c111a720765ac1ef4940", func := "tallow/tallowlaw11.ReachCloses", spec := "reachCloses", unfollowed := true, recurses := true, apart := false }
def ReachClosesSaid : Prop := reachClosesRow.holds Try.pinned (OpenSpec.ofChange reachClosesSpec)

/-- ITS FALSE NEIGHBOUR: 'it returns false'. Refute it at one input. -/
def reachClosesWrong : ChangeSpec := { name := "reachCloses", fn := fun _ => fun
  | [d1, d2] => { results := [.lit (.bool false)], args := [d1, d2] }
  | _ => none }
def ReachClosesWrongFalsely : Prop := reachClosesRow.holds Try.pinned (OpenSpec.ofChange reachClosesWrong)

/-- 'tallowlaw11.ReachWays': WHATEVER THE INPUT: true; the input reads as it did. -/
def reachWaysSpec : ChangeSpec := { name := "reachWays", fn := fun _ => fun
  | [d1, d2, d3] => { results := [.lit (.bool true)], args := [d1, d2, d3] }
  | _ => none }
def reachWaysRow : OpenClaim := { program := "ytmngkodejlhalaa", sum := "89cc149b3a8ff3099507eab5132e65a52880e84742e8c111a720765ac1ef4940", func := "tallow/tallowlaw11.ReachWays", spec := "reachWays", unfollowed := true, recurses := true, apart := false }
def ReachWaysSaid : Prop := reachWaysRow.holds Try.pinned (OpenSpec.ofChange reachWaysSpec)

/-- ITS FALSE NEIGHBOUR: 'it returns false'. Refute it at one input. -/
def reachWaysWrong : ChangeSpec := { name := "reachWays", fn := fun _ => fun
  | [d1, d2, d3] => { results := [.lit (.bool false)], args := [d1, d2, d3] }
  | _ => none }
def ReachWaysWrongFalsely : Prop := reachWaysRow.holds Try.pinned (OpenSpec.ofChange reachWaysWrong)

/-- 'tallowlaw11.ReachMore': WHATEVER THE INPUT: true; the input reads as it did. -/
def reachMoreSpec : ChangeSpec := { name := "reachMore", fn := fun _ => fun
  | [d1, d2, d3] => { results := [.lit (.bool true)], args := [d1, d2, d3] }
  | _ => none }
def reachMoreRow : OpenClaim := { program := "ytmngkodejlhalaa", sum := "89cc149b3a8ff3099507eab5132e65a52880e84742e8c111a720765ac1ef4940", func := "tallow/tallowlaw11.ReachMore", spec := "reachMore", unfollowed := true, recurses := true, apart := false }
def ReachMoreSaid : Prop := reachMoreRow.holds Try.pinned (OpenSpec.ofChange reachMoreSpec)

/-- ITS FALSE NEIGHBOUR: 'it returns false'. Refute it at one input. -/
def reachMoreWrong : ChangeSpec := { name := "reachMore", fn := fun _ => fun
  | [d1, d2, d3] => { results := [.lit (.bool false)], args := [d1, d2, d3] }
  | _ => none }
def ReachMoreWrongFalsely : Prop := reachMoreRow.holds Try.pinned (OpenSpec.ofChange reachMoreWrong)

/-- 'tallowlaw11.ReachKnown': WHATEVER THE INPUT: true; the input reads as it did. -/
def reachKnownSpec : ChangeSpec := { name := "reachKnown", fn := fun _ => fun
  | [] => { results := [.lit (.bool true)], args := [] }
  | _ => none }
def reachKnownRow : OpenClaim := { program := "ytmngkodejlhalaa", sum := "89cc149b3a8ff3099507eab5132e65a52880e84742e8c111a720765ac1ef4940", func := "tallow/tallowlaw11.ReachKnown", spec := "reachKnown", unfollowed := true, recurses := true, apart := false }
def ReachKnownSaid : Prop := reachKnownRow.holds Try.pinned (OpenSpec.ofChange reachKnownSpec)

/-- ITS FALSE NEIGHBOUR: 'it returns false'. Refute it at one input. -/
def reachKnownWrong : ChangeSpec := { name := "reachKnown", fn := fun _ => fun
  | [] => { results := [.lit (.bool false)], args := [] }
  | _ => none }
def ReachKnownWrongFalsely : Prop := reachKnownRow.holds Try.pinned (OpenSpec.ofChange reachKnownWrong)

/-- 'tallowlaw12.TrialSees': WHATEVER THE INPUT: true; the input reads as it did. -/
def trialSeesSpec : ChangeSpec := { name := "trialSees", fn := fun _ => fun
  | [d1, d2] => { results := [.lit (.bool true)], args := [d1, d2] }
  | _ => none }
def trialSeesRow : OpenClaim := { program := "ytmngkodejlhalaa", sum := "89cc149b3a8ff3099507eab5132e65a52880e84742e8c111a720765ac1ef4940", func := "tallow/tallowlaw12.TrialSees", spec := "trialSees", unfollowed := true, recurses := true, apart := false }
def TrialSeesSaid : Prop := trialSeesRow.holds Try.pinned (OpenSpec.ofChange trialSeesSpec)

/-- ITS FALSE NEIGHBOUR: 'it returns false'. Refute it at one input. -/
def trialSeesWrong : ChangeSpec := { name := "trialSees", fn := fun _ => fun
  | [d1, d2] => { results := [.lit (.bool false)], args := [d1, d2] }
  | _ => none }
def TrialSeesWrongFalsely : Prop := trialSeesRow.holds Try.pinned (OpenSpec.ofChange trialSeesWrong)

/-- 'tallowlaw12.TrialGoes': WHATEVER THE INPUT: true; the input reads as it did. -/
def trialGoesSpec : ChangeSpec := { name := "trialGoes", fn := fun _ => fun
  | [d1, d2] => { results := [.lit (.bool true)], args := [d1, d2] }
  | _ => none }
def trialGoesRow : OpenClaim := { program := "ytmngkodejlhalaa", sum := "89cc149b3a8ff3099507eab5132e65a52880e84742e8c111a720765ac1ef4940", func := "tallow/tallowlaw12.TrialGoes", spec := "trialGoes", unfollowed := true, recurses := true, apart := false }
def TrialGoesSaid : Prop := trialGoesRow.holds Try.pinned (OpenSpec.ofChange trialGoesSpec)

/-- ITS FALSE NEIGHBOUR: 'it returns false'. Refute it at one input. -/
def trialGoesWrong : ChangeSpec := { name := "trialGoes", fn := fun _ => fun
  | [d1, d2] => { results := [.lit (.bool false)], args := [d1, d2] }
  | _ => none }
def TrialGoesWrongFalsely : Prop := trialGoesRow.holds Try.pinned (OpenSpec.ofChange trialGoesWrong)

/-- 'tallowlaw12.TrialKnown': WHATEVER THE INPUT: true; the input reads as it did. -/
def trialKnownSpec : ChangeSpec := { name := "trialKnown", fn := fun _ => fun
  | [] => { results := [.lit (.bool true)], args := [] }
  | _ => none }
def trialKnownRow : OpenClaim := { program := "ytmngkodejlhalaa", sum := "89cc149b3a8ff3099507eab5132e65a52880e84742e8c111a720765ac1ef4940", func := "tallow/tallowlaw12.TrialKnown", spec := "trialKnown", unfollowed := true, recurses := true, apart := false }
def TrialKnownSaid : Prop := trialKnownRow.holds Try.pinned (OpenSpec.ofChange trialKnownSpec)

/-- ITS FALSE NEIGHBOUR: 'it returns false'. Refute it at one input. -/
def trialKnownWrong : ChangeSpec := { name := "trialKnown", fn := fun _ => fun
  | [] => { results := [.lit (.bool false)], args := [] }
  | _ => none }
def TrialKnownWrongFalsely : Prop := trialKnownRow.holds Try.pinned (OpenSpec.ofChange trialKnownWrong)

/-- 'tallowlaw12.TrialWhole': WHATEVER THE INPUT: true; the input reads as it did. -/
def trialWholeSpec : ChangeSpec := { name := "trialWhole", fn := fun _ => fun
  | [d] => { results := [.lit (.bool true)], args := [d] }
  | _ => none }
def trialWholeRow : OpenClaim := { program := "ytmngkodejlhalaa", sum := "89cc149b3a8ff3099507eab5132e65a52880e84742e8c111a720765ac1ef4940", func := "tallow/tallowlaw12.TrialWhole", spec := "trialWhole", unfollowed := true, recurses := true, apart := false }
def TrialWholeSaid : Prop := trialWholeRow.holds Try.pinned (OpenSpec.ofChange trialWholeSpec)

/-- ITS FALSE NEIGHBOUR: 'it returns false'. Refute it at one input. -/
def trialWholeWrong : ChangeSpec := { name := "trialWhole", fn := fun _ => fun
  | [d] => { results := [.lit (.bool false)], args := [d] }
  | _ => none }
def TrialWholeWrongFalsely : Prop := trialWholeRow.holds Try.pinned (OpenSpec.ofChange trialWholeWrong)

/-- 'tallowlaw12.TrialMarked': WHATEVER THE INPUT: true; the input reads as it did. -/
def trialMarkedSpec : ChangeSpec := { name := "trialMarked", fn := fun _ => fun
  | [d1, d2] => { results := [.lit (.bool true)], args := [d1, d2] }
  | _ => none }
def trialMarkedRow : OpenClaim := { program := "ytmngkodejlhalaa", sum := "89cc149b3a8ff3099507eab5132e65a52880e84742e8c111a720765ac1ef4940", func := "tallow/tallowlaw12.TrialMarked", spec := "trialMarked", unfollowed := true, recurses := true, apart := false }
def TrialMarkedSaid : Prop := trialMarkedRow.holds Try.pinned (OpenSpec.ofChange trialMarkedSpec)

/-- ITS FALSE NEIGHBOUR: 'it returns false'. Refute it at one input. -/
def trialMarkedWrong : ChangeSpec := { name := "trialMarked", fn := fun _ => fun
  | [d1, d2] => { results := [.lit (.bool false)], args := [d1, d2] }
  | _ => none }
def TrialMarkedWrongFalsely : Prop := trialMarkedRow.holds Try.pinned (OpenSpec.ofChange trialMarkedWrong)

/-- 'tallowlaw12.TrialRight': WHATEVER THE INPUT: true; the input reads as it did. -/
def trialRightSpec : ChangeSpec := { name := "trialRight", fn := fun _ => fun
  | [d1, d2, d3] => { results := [.lit (.bool true)], args := [d1, d2, d3] }
  | _ => none }
def trialRightRow : OpenClaim := { program := "ytmngkodejlhalaa", sum := "89cc149b3a8ff3099507eab5132e65a52880e84742e8c111a720765ac1ef4940", func := "tallow/tallowlaw12.TrialRight", spec := "trialRight", unfollowed := true, recurses := true, apart := false }
def TrialRightSaid : Prop := trialRightRow.holds Try.pinned (OpenSpec.ofChange trialRightSpec)

/-- ITS FALSE NEIGHBOUR: 'it returns false'. Refute it at one input. -/
def trialRightWrong : ChangeSpec := { name := "trialRight", fn := fun _ => fun
  | [d1, d2, d3] => { results := [.lit (.bool false)], args := [d1, d2, d3] }
  | _ => none }
def TrialRightWrongFalsely : Prop := trialRightRow.holds Try.pinned (OpenSpec.ofChange trialRightWrong)

/- THE SECOND FORM. 'bulk': how many values and letters a reading holds, each counted each time it is reached (what is shared counts as often as it is met; a slice's spare places count too). A statement '..UptoSaid' is the law's where the arguments, and the package variables that the reading takes, are together of bulk at most 1048576: NARROWER than '..Said'. Prove '..Said' where nothing that the law and all that it calls make is longer than what came in: it says more and counts as full. Else prove '..UptoSaid'. A law counts once. -/
mutual
def uptoBulk {H : Type} : DataW H → Nat
  | .lit (.string bytes) => bytes.length + 1
  | .lit _ => 1
  | .nil => 1
  | .ptr d => uptoBulk d + 1
  | .slice elems spare => uptoBulkAll elems + uptoBulkAll spare + 1
  | .agg parts => uptoBulkAll parts + 1
  | .iface _ d => uptoBulk d + 1
  | .map entries => uptoBulkEntries entries + 1
  | .held _ => 1
def uptoBulkAll {H : Type} : List (DataW H) → Nat
  | [] => 0
  | d :: r => uptoBulk d + uptoBulkAll r
def uptoBulkEntries {H : Type} : List (Lit × DataW H) → Nat
  | [] => 0
  | x :: r => uptoBulkEntry x + uptoBulkEntries r
def uptoBulkEntry {H : Type} : Lit × DataW H → Nat
  | (.string bytes, d) => bytes.length + uptoBulk d + 1
  | (_, d) => uptoBulk d + 1
 end
def uptoSmall : (H : Type) → List (DataW H) → Bool := fun _ ds => decide (uptoBulkAll ds ≤ 1048576)
def OpenSpec.upto (s : _root_.Go.ChangeSpec) : _root_.Go.OpenSpec := { _root_.Go.OpenSpec.ofChange s with cond := some uptoSmall }

/-- 'tallowlaw11.ReachFinds', WHERE WHAT IT READS IS OF BULK AT MOST 1048576: true; the input reads as it did. -/
def reachFindsUptoRow : OpenClaim := { program := "ytmngkodejlhalaa", sum := "89cc149b3a8ff3099507eab5132e65a52880e84742e8c111a720765ac1ef4940", func := "tallow/tallowlaw11.ReachFinds", spec := "reachFinds", unfollowed := true, recurses := true, apart := false, narrowed := true }
def ReachFindsUptoSaid : Prop := reachFindsUptoRow.holds Try.pinned (OpenSpec.upto reachFindsSpec)

/-- 'tallowlaw11.ReachPaths', WHERE WHAT IT READS IS OF BULK AT MOST 1048576: true; the input reads as it did. -/
def reachPathsUptoRow : OpenClaim := { program := "ytmngkodejlhalaa", sum := "89cc149b3a8ff3099507eab5132e65a52880e84742e8c111a720765ac1ef4940", func := "tallow/tallowlaw11.ReachPaths", spec := "reachPaths", unfollowed := true, recurses := true, apart := false, narrowed := true }
def ReachPathsUptoSaid : Prop := reachPathsUptoRow.holds Try.pinned (OpenSpec.upto reachPathsSpec)

/-- 'tallowlaw11.ReachCloses', WHERE WHAT IT READS IS OF BULK AT MOST 1048576: true; the input reads as it did. -/
def reachClosesUptoRow : OpenClaim := { program := "ytmngkodejlhalaa", sum := "89cc149b3a8ff3099507eab5132e65a52880e84742e8c111a720765ac1ef4940", func := "tallow/tallowlaw11.ReachCloses", spec := "reachCloses", unfollowed := true, recurses := true, apart := false, narrowed := true }
def ReachClosesUptoSaid : Prop := reachClosesUptoRow.holds Try.pinned (OpenSpec.upto reachClosesSpec)

/-- 'tallowlaw11.ReachWays', WHERE WHAT IT READS IS OF BULK AT MOST 1048576: true; the input reads as it did. -/
def reachWaysUptoRow : OpenClaim := { program := "ytmngkodejlhalaa", sum := "89cc149b3a8ff3099507eab5132e65a52880e84742e8c111a720765ac1ef4940", func := "tallow/tallowlaw11.ReachWays", spec := "reachWays", unfollowed := true, recurses := true, apart := false, narrowed := true }
def ReachWaysUptoSaid : Prop := reachWaysUptoRow.holds Try.pinned (OpenSpec.upto reachWaysSpec)

/-- 'tallowlaw11.ReachMore', WHERE WHAT IT READS IS OF BULK AT MOST 1048576: true; the input reads as it did. -/
def reachMoreUptoRow : OpenClaim := { program := "ytmngkodejlhalaa", sum := "89cc149b3a8ff3099507eab5132e65a52880e84742e8c111a720765ac1ef4940", func := "tallow/tallowlaw11.ReachMore", spec := "reachMore", unfollowed := true, recurses := true, apart := false, narrowed := true }
def ReachMoreUptoSaid : Prop := reachMoreUptoRow.holds Try.pinned (OpenSpec.upto reachMoreSpec)

/-- 'tallowlaw11.ReachKnown', WHERE WHAT IT READS IS OF BULK AT MOST 1048576: true; the input reads as it did. -/
def reachKnownUptoRow : OpenClaim := { program := "ytmngkodejlhalaa", sum := "89cc149b3a8ff3099507eab5132e65a52880e84742e8c111a720765ac1ef4940", func := "tallow/tallowlaw11.ReachKnown", spec := "reachKnown", unfollowed := true, recurses := true, apart := false, narrowed := true }
def ReachKnownUptoSaid : Prop := reachKnownUptoRow.holds Try.pinned (OpenSpec.upto reachKnownSpec)

/-- 'tallowlaw12.TrialSees', WHERE WHAT IT READS IS OF BULK AT MOST 1048576: true; the input reads as it did. -/
def trialSeesUptoRow : OpenClaim := { program := "ytmngkodejlhalaa", sum := "89cc149b3a8ff3099507eab5132e65a52880e84742e8c111a720765ac1ef4940", func := "tallow/tallowlaw12.TrialSees", spec := "trialSees", unfollowed := true, recurses := true, apart := false, narrowed := true }
def TrialSeesUptoSaid : Prop := trialSeesUptoRow.holds Try.pinned (OpenSpec.upto trialSeesSpec)

/-- 'tallowlaw12.TrialGoes', WHERE WHAT IT READS IS OF BULK AT MOST 1048576: true; the input reads as it did. -/
def trialGoesUptoRow : OpenClaim := { program := "ytmngkodejlhalaa", sum := "89cc149b3a8ff3099507eab5132e65a52880e84742e8c111a720765ac1ef4940", func := "tallow/tallowlaw12.TrialGoes", spec := "trialGoes", unfollowed := true, recurses := true, apart := false, narrowed := true }
def TrialGoesUptoSaid : Prop := trialGoesUptoRow.holds Try.pinned (OpenSpec.upto trialGoesSpec)

/-- 'tallowlaw12.TrialKnown', WHERE WHAT IT READS IS OF BULK AT MOST 1048576: true; the input reads as it did. -/
def trialKnownUptoRow : OpenClaim := { program := "ytmngkodejlhalaa", sum := "89cc149b3a8ff3099507eab5132e65a52880e84742e8c111a720765ac1ef4940", func := "tallow/tallowlaw12.TrialKnown", spec := "trialKnown", unfollowed := true, recurses := true, apart := false, narrowed := true }
def TrialKnownUptoSaid : Prop := trialKnownUptoRow.holds Try.pinned (OpenSpec.upto trialKnownSpec)

/-- 'tallowlaw12.TrialWhole', WHERE WHAT IT READS IS OF BULK AT MOST 1048576: true; the input reads as it did. -/
def trialWholeUptoRow : OpenClaim := { program := "ytmngkodejlhalaa", sum := "89cc149b3a8ff3099507eab5132e65a52880e84742e8c111a720765ac1ef4940", func := "tallow/tallowlaw12.TrialWhole", spec := "trialWhole", unfollowed := true, recurses := true, apart := false, narrowed := true }
def TrialWholeUptoSaid : Prop := trialWholeUptoRow.holds Try.pinned (OpenSpec.upto trialWholeSpec)

/-- 'tallowlaw12.TrialMarked', WHERE WHAT IT READS IS OF BULK AT MOST 1048576: true; the input reads as it did. -/
def trialMarkedUptoRow : OpenClaim := { program := "ytmngkodejlhalaa", sum := "89cc149b3a8ff3099507eab5132e65a52880e84742e8c111a720765ac1ef4940", func := "tallow/tallowlaw12.TrialMarked", spec := "trialMarked", unfollowed := true, recurses := true, apart := false, narrowed := true }
def TrialMarkedUptoSaid : Prop := trialMarkedUptoRow.holds Try.pinned (OpenSpec.upto trialMarkedSpec)

/-- 'tallowlaw12.TrialRight', WHERE WHAT IT READS IS OF BULK AT MOST 1048576: true; the input reads as it did. -/
def trialRightUptoRow : OpenClaim := { program := "ytmngkodejlhalaa", sum := "89cc149b3a8ff3099507eab5132e65a52880e84742e8c111a720765ac1ef4940", func := "tallow/tallowlaw12.TrialRight", spec := "trialRight", unfollowed := true, recurses := true, apart := false, narrowed := true }
def TrialRightUptoSaid : Prop := trialRightUptoRow.holds Try.pinned (OpenSpec.upto trialRightSpec)

end Rows
end Go.Proofs.Ytmngkodejlhalaa
