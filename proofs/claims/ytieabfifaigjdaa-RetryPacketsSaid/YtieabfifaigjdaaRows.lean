/-
  No cell of these rows narrows 'for every input' (looked for: loops, veiled, ifaces, maps, wideKeys, modest, calm, conditions, laid).
  DERIVED. THE GIVEN ROWS OF THIS SEAT. 5 by the template 'for every input the law returns true; each argument reads behind the call as it read before'; 0 by the template 'total and deterministic' (their statements: YtieabfifaigjdaaTotals.lean).
  GIVEN WITH THE SEED: the statements are not yours to turn. If you find one false, say at which input.
  Laid BY PROGRAM, IN A SANDBOX (cutbox-rows.mjs): the forced cells as the released guide's own fill.sh prints them over the translation 8b07052f2b254dd1… (all of the seat's roots in one cut). By AI agents, Wed Nov 11 2026. No macro, syntax, notation, axiom, sorry.
-/
import Derived.Test.YtieabfifaigjdaaChecked
import GoSem.Claim
import GoSem.ClaimJoined
import GoSem.ClaimMapViews
import Derived.JoinedTies
import Derived.KernelRfl
namespace Go.Proofs.Ytieabfifaigjdaa
/- THE CELL 'sum', in the pinned program and in every row, IS THE sha256 OF THE DUMP (.gsa) THAT YtieabfifaigjdaaProg.lean LOADS. Nothing in Lean hashes anything: it is a label: what it is worth is what the hold of that sum in a sandbox is worth. -/
noncomputable def Try.pinned : Pinned := { name := "ytieabfifaigjdaa", sum := "8b07052f2b254dd1a0158b18242ffe5be2e62fb9ab68087a1a74dbc438765ac5", checked := Try.checked }
namespace Rows
def none {H : Type} : Left H := { results := [], args := [] }

/-- 'hostlerlaw33.RetryPackets': WHATEVER THE INPUT: true; the input reads as it did. -/
def retryPacketsSpec : ChangeSpec := { name := "retryPackets", fn := fun _ => fun
  | [d1, d2, d3] => { results := [.lit (.bool true)], args := [d1, d2, d3] }
  | _ => none }
def retryPacketsRow : OpenClaim := { program := "ytieabfifaigjdaa", sum := "8b07052f2b254dd1a0158b18242ffe5be2e62fb9ab68087a1a74dbc438765ac5", func := "hostler/hostlerlaw33.RetryPackets", spec := "retryPackets", unfollowed := true, recurses := true, apart := false }
def RetryPacketsSaid : Prop := retryPacketsRow.holds Try.pinned (OpenSpec.ofChange retryPacketsSpec)

/-- ITS FALSE NEIGHBOUR: 'it returns false'. Refute it at one input. -/
def retryPacketsWrong : ChangeSpec := { name := "retryPackets", fn := fun _ => fun
  | [d1, d2, d3] => { results := [.lit (.bool false)], args := [d1, d2, d3] }
  | _ => none }
def RetryPacketsWrongFalsely : Prop := retryPacketsRow.holds Try.pinned (OpenSpec.ofChange retryPacketsWrong)

/-- 'hostlerlaw33.RetryTokens': WHATEVER THE INPUT: true; the input reads as it did. -/
def retryTokensSpec : ChangeSpec := { name := "retryTokens", fn := fun _ => fun
  | [d1, d2, d3, d4] => { results := [.lit (.bool true)], args := [d1, d2, d3, d4] }
  | _ => none }
def retryTokensRow : OpenClaim := { program := "ytieabfifaigjdaa", sum := "8b07052f2b254dd1a0158b18242ffe5be2e62fb9ab68087a1a74dbc438765ac5", func := "hostler/hostlerlaw33.RetryTokens", spec := "retryTokens", unfollowed := true, recurses := true, apart := false }
def RetryTokensSaid : Prop := retryTokensRow.holds Try.pinned (OpenSpec.ofChange retryTokensSpec)

/-- ITS FALSE NEIGHBOUR: 'it returns false'. Refute it at one input. -/
def retryTokensWrong : ChangeSpec := { name := "retryTokens", fn := fun _ => fun
  | [d1, d2, d3, d4] => { results := [.lit (.bool false)], args := [d1, d2, d3, d4] }
  | _ => none }
def RetryTokensWrongFalsely : Prop := retryTokensRow.holds Try.pinned (OpenSpec.ofChange retryTokensWrong)

/-- 'hostlerlaw33.RetryChecks': WHATEVER THE INPUT: true; the input reads as it did. -/
def retryChecksSpec : ChangeSpec := { name := "retryChecks", fn := fun _ => fun
  | [d1, d2, d3, d4, d5] => { results := [.lit (.bool true)], args := [d1, d2, d3, d4, d5] }
  | _ => none }
def retryChecksRow : OpenClaim := { program := "ytieabfifaigjdaa", sum := "8b07052f2b254dd1a0158b18242ffe5be2e62fb9ab68087a1a74dbc438765ac5", func := "hostler/hostlerlaw33.RetryChecks", spec := "retryChecks", unfollowed := true, recurses := true, apart := false }
def RetryChecksSaid : Prop := retryChecksRow.holds Try.pinned (OpenSpec.ofChange retryChecksSpec)

/-- ITS FALSE NEIGHBOUR: 'it returns false'. Refute it at one input. -/
def retryChecksWrong : ChangeSpec := { name := "retryChecks", fn := fun _ => fun
  | [d1, d2, d3, d4, d5] => { results := [.lit (.bool false)], args := [d1, d2, d3, d4, d5] }
  | _ => none }
def RetryChecksWrongFalsely : Prop := retryChecksRow.holds Try.pinned (OpenSpec.ofChange retryChecksWrong)

/-- 'hostlerlaw33.RetryKnown': WHATEVER THE INPUT: true; the input reads as it did. -/
def retryKnownSpec : ChangeSpec := { name := "retryKnown", fn := fun _ => fun
  | [] => { results := [.lit (.bool true)], args := [] }
  | _ => none }
def retryKnownRow : OpenClaim := { program := "ytieabfifaigjdaa", sum := "8b07052f2b254dd1a0158b18242ffe5be2e62fb9ab68087a1a74dbc438765ac5", func := "hostler/hostlerlaw33.RetryKnown", spec := "retryKnown", unfollowed := true, recurses := true, apart := false }
def RetryKnownSaid : Prop := retryKnownRow.holds Try.pinned (OpenSpec.ofChange retryKnownSpec)

/-- ITS FALSE NEIGHBOUR: 'it returns false'. Refute it at one input. -/
def retryKnownWrong : ChangeSpec := { name := "retryKnown", fn := fun _ => fun
  | [] => { results := [.lit (.bool false)], args := [] }
  | _ => none }
def RetryKnownWrongFalsely : Prop := retryKnownRow.holds Try.pinned (OpenSpec.ofChange retryKnownWrong)

/-- 'hostlerlaw33.RetryProves': WHATEVER THE INPUT: true; the input reads as it did. -/
def retryProvesSpec : ChangeSpec := { name := "retryProves", fn := fun _ => fun
  | [d1, d2, d3, d4, d5, d6, d7, d8] => { results := [.lit (.bool true)], args := [d1, d2, d3, d4, d5, d6, d7, d8] }
  | _ => none }
def retryProvesRow : OpenClaim := { program := "ytieabfifaigjdaa", sum := "8b07052f2b254dd1a0158b18242ffe5be2e62fb9ab68087a1a74dbc438765ac5", func := "hostler/hostlerlaw33.RetryProves", spec := "retryProves", unfollowed := true, recurses := true, apart := false }
def RetryProvesSaid : Prop := retryProvesRow.holds Try.pinned (OpenSpec.ofChange retryProvesSpec)

/-- ITS FALSE NEIGHBOUR: 'it returns false'. Refute it at one input. -/
def retryProvesWrong : ChangeSpec := { name := "retryProves", fn := fun _ => fun
  | [d1, d2, d3, d4, d5, d6, d7, d8] => { results := [.lit (.bool false)], args := [d1, d2, d3, d4, d5, d6, d7, d8] }
  | _ => none }
def RetryProvesWrongFalsely : Prop := retryProvesRow.holds Try.pinned (OpenSpec.ofChange retryProvesWrong)

/- THE SECOND FORM. 'bulk': how many values and letters a reading holds, each counted each time it is reached (what is shared counts as often as it is met; a slice's spare places count too). A statement '..UptoSaid' is the law's where the arguments, and the package variables that the reading takes, are together of bulk at most 1048576: NARROWER than '..Said'. Prove '..Said' where nothing that the law and all that it calls make is longer than what came in: it says more and counts as full. Else prove '..UptoSaid'. A law counts once. -/
mutual
def uptoBulk {H : Type} : DataW H → Nat
  | .lit (.string bytes) => bytes.length + 1
  | .lit _ => 1
  | .nil => 1
  | .ptr d => uptoBulk d + 1
  | .slice elems spare => uptoBulkAll elems + uptoBulkAll spare + 1
  | .agg parts => uptoBulkAll parts + 1
  | .iface _ d => uptoBulk d + 1
  | .map entries => uptoBulkEntries entries + 1
  | .held _ => 1
def uptoBulkAll {H : Type} : List (DataW H) → Nat
  | [] => 0
  | d :: r => uptoBulk d + uptoBulkAll r
def uptoBulkEntries {H : Type} : List (Lit × DataW H) → Nat
  | [] => 0
  | x :: r => uptoBulkEntry x + uptoBulkEntries r
def uptoBulkEntry {H : Type} : Lit × DataW H → Nat
  | (.string bytes, d) => bytes.length + uptoBulk d + 1
  | (_, d) => uptoBulk d + 1
 end
def uptoSmall : (H : Type) → List (DataW H) → Bool := fun _ ds => decide (uptoBulkAll ds ≤ 1048576)
def OpenSpec.upto (s : _root_.Go.ChangeSpec) : _root_.Go.OpenSpec := { _root_.Go.OpenSpec.ofChange s with cond := some uptoSmall }

/-- 'hostlerlaw33.RetryPackets', WHERE WHAT IT READS IS OF BULK AT MOST 1048576: true; the input reads as it did. -/
def retryPacketsUptoRow : OpenClaim := { program := "ytieabfifaigjdaa", sum := "8b07052f2b254dd1a0158b18242ffe5be2e62fb9ab68087a1a74dbc438765ac5", func := "hostler/hostlerlaw33.RetryPackets", spec := "retryPackets", unfollowed := true, recurses := true, apart := false, narrowed := true }
def RetryPacketsUptoSaid : Prop := retryPacketsUptoRow.holds Try.pinned (OpenSpec.upto retryPacketsSpec)

/-- 'hostlerlaw33.RetryTokens', WHERE WHAT IT READS IS OF BULK AT MOST 1048576: true; the input reads as it did. -/
def retryTokensUptoRow : OpenClaim := { program := "ytieabfifaigjdaa", sum := "8b07052f2b254dd1a0158b18242ffe5be2e62fb9ab68087a1a74dbc438765ac5", func := "hostler/hostlerlaw33.RetryTokens", spec := "retryTokens", unfollowed := true, recurses := true, apart := false, narrowed := true }
def RetryTokensUptoSaid : Prop := retryTokensUptoRow.holds Try.pinned (OpenSpec.upto retryTokensSpec)

/-- 'hostlerlaw33.RetryChecks', WHERE WHAT IT READS IS OF BULK AT MOST 1048576: true; the input reads as it did. -/
def retryChecksUptoRow : OpenClaim := { program := "ytieabfifaigjdaa", sum := "8b07052f2b254dd1a0158b18242ffe5be2e62fb9ab68087a1a74dbc438765ac5", func := "hostler/hostlerlaw33.RetryChecks", spec := "retryChecks", unfollowed := true, recurses := true, apart := false, narrowed := true }
def RetryChecksUptoSaid : Prop := retryChecksUptoRow.holds Try.pinned (OpenSpec.upto retryChecksSpec)

/-- 'hostlerlaw33.RetryKnown', WHERE WHAT IT READS IS OF BULK AT MOST 1048576: true; the input reads as it did. -/
def retryKnownUptoRow : OpenClaim := { program := "ytieabfifaigjdaa", sum := "8b07052f2b254dd1a0158b18242ffe5be2e62fb9ab68087a1a74dbc438765ac5", func := "hostler/hostlerlaw33.RetryKnown", spec := "retryKnown", unfollowed := true, recurses := true, apart := false, narrowed := true }
def RetryKnownUptoSaid : Prop := retryKnownUptoRow.holds Try.pinned (OpenSpec.upto retryKnownSpec)

/-- 'hostlerlaw33.RetryProves', WHERE WHAT IT READS IS OF BULK AT MOST 1048576: true; the input reads as it did. -/
def retryProvesUptoRow : OpenClaim := { program := "ytieabfifaigjdaa", sum := "8b07052f2b254dd1a0158b18242ffe5be2e62fb9ab68087a1a74dbc438765ac5", func := "hostler/hostlerlaw33.RetryProves", spec := "retryProves", unfollowed := true, recurses := true, apart := false, narrowed := true }
def RetryProvesUptoSaid : Prop := retryProvesUptoRow.holds Try.pinned (OpenSpec.upto retryProvesSpec)

end Rows
end Go.Proofs.Ytieabfifaigjdaa
