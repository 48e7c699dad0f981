/-
  No cell of these rows narrows 'for every input' (looked for: loops, veiled, ifaces, maps, wideKeys, modest, calm, conditions, laid).
  DERIVED. THE GIVEN ROWS OF THIS SEAT. 5 by the template 'for every input the law returns true; each argument reads behind the call as it read before'; 0 by the template 'total and deterministic' (their statements: YtfmbbjinlicbgaaTotals.lean).
  GIVEN WITH THE SEED: the statements are not yours to turn. If you find one false, say at which input.
  Laid BY PROGRAM, IN A SANDBOX (cutbox-rows.mjs): the forced cells as the released guide's own fill.sh prints them over the translation 13919dd5a7e0359e… (all of the seat's roots in one cut). By AI agents, Wed Nov 11 2026. No macro, syntax, notation, axiom, sorry.
-/
import Derived.Test.YtfmbbjinlicbgaaChecked
import GoSem.Claim
import GoSem.ClaimJoined
import GoSem.ClaimMapViews
import Derived.JoinedTies
import Derived.KernelRfl
namespace Go.Proofs.Ytfmbbjinlicbgaa
/- THE CELL 'sum', in the pinned program and in every row, IS THE sha256 OF THE DUMP (.gsa) THAT YtfmbbjinlicbgaaProg.lean LOADS. Nothing in Lean hashes anything: it is a label: what it is worth is what the hold of that sum in a sandbox is worth. -/
noncomputable def Try.pinned : Pinned := { name := "ytfmbbjinlicbgaa", sum := "13919dd5a7e0359e77a2b25b672334efec292b91ce398e167331a26cdfb135e4", checked := Try.checked }
namespace Rows
def none {H : Type} : Left H := { results := [], args := [] }

/-- 'hostlerlaw35.PacerTogether': WHATEVER THE INPUT: true; the input reads as it did. -/
def pacerTogetherSpec : ChangeSpec := { name := "pacerTogether", fn := fun _ => fun
  | [d1, d2, d3, d4] => { results := [.lit (.bool true)], args := [d1, d2, d3, d4] }
  | _ => none }
def pacerTogetherRow : OpenClaim := { program := "ytfmbbjinlicbgaa", sum := "13919dd5a7e0359e77a2b25b672334efec292b91ce398e167331a26cdfb135e4", func := "hostler/hostlerlaw35.PacerTogether", spec := "pacerTogether", apart := false }
def PacerTogetherSaid : Prop := pacerTogetherRow.holds Try.pinned (OpenSpec.ofChange pacerTogetherSpec)

/-- ITS FALSE NEIGHBOUR: 'it returns false'. Refute it at one input. -/
def pacerTogetherWrong : ChangeSpec := { name := "pacerTogether", fn := fun _ => fun
  | [d1, d2, d3, d4] => { results := [.lit (.bool false)], args := [d1, d2, d3, d4] }
  | _ => none }
def PacerTogetherWrongFalsely : Prop := pacerTogetherRow.holds Try.pinned (OpenSpec.ofChange pacerTogetherWrong)

/-- 'hostlerlaw35.PacerBounds': WHATEVER THE INPUT: true; the input reads as it did. -/
def pacerBoundsSpec : ChangeSpec := { name := "pacerBounds", fn := fun _ => fun
  | [d1, d2, d3] => { results := [.lit (.bool true)], args := [d1, d2, d3] }
  | _ => none }
def pacerBoundsRow : OpenClaim := { program := "ytfmbbjinlicbgaa", sum := "13919dd5a7e0359e77a2b25b672334efec292b91ce398e167331a26cdfb135e4", func := "hostler/hostlerlaw35.PacerBounds", spec := "pacerBounds", apart := false }
def PacerBoundsSaid : Prop := pacerBoundsRow.holds Try.pinned (OpenSpec.ofChange pacerBoundsSpec)

/-- ITS FALSE NEIGHBOUR: 'it returns false'. Refute it at one input. -/
def pacerBoundsWrong : ChangeSpec := { name := "pacerBounds", fn := fun _ => fun
  | [d1, d2, d3] => { results := [.lit (.bool false)], args := [d1, d2, d3] }
  | _ => none }
def PacerBoundsWrongFalsely : Prop := pacerBoundsRow.holds Try.pinned (OpenSpec.ofChange pacerBoundsWrong)

/-- 'hostlerlaw35.PacerWaits': WHATEVER THE INPUT: true; the input reads as it did. -/
def pacerWaitsSpec : ChangeSpec := { name := "pacerWaits", fn := fun _ => fun
  | [d1, d2, d3, d4, d5] => { results := [.lit (.bool true)], args := [d1, d2, d3, d4, d5] }
  | _ => none }
def pacerWaitsRow : OpenClaim := { program := "ytfmbbjinlicbgaa", sum := "13919dd5a7e0359e77a2b25b672334efec292b91ce398e167331a26cdfb135e4", func := "hostler/hostlerlaw35.PacerWaits", spec := "pacerWaits", apart := false }
def PacerWaitsSaid : Prop := pacerWaitsRow.holds Try.pinned (OpenSpec.ofChange pacerWaitsSpec)

/-- ITS FALSE NEIGHBOUR: 'it returns false'. Refute it at one input. -/
def pacerWaitsWrong : ChangeSpec := { name := "pacerWaits", fn := fun _ => fun
  | [d1, d2, d3, d4, d5] => { results := [.lit (.bool false)], args := [d1, d2, d3, d4, d5] }
  | _ => none }
def PacerWaitsWrongFalsely : Prop := pacerWaitsRow.holds Try.pinned (OpenSpec.ofChange pacerWaitsWrong)

/-- 'hostlerlaw35.PacerKnown': WHATEVER THE INPUT: true; the input reads as it did. -/
def pacerKnownSpec : ChangeSpec := { name := "pacerKnown", fn := fun _ => fun
  | [] => { results := [.lit (.bool true)], args := [] }
  | _ => none }
def pacerKnownRow : OpenClaim := { program := "ytfmbbjinlicbgaa", sum := "13919dd5a7e0359e77a2b25b672334efec292b91ce398e167331a26cdfb135e4", func := "hostler/hostlerlaw35.PacerKnown", spec := "pacerKnown", apart := false }
def PacerKnownSaid : Prop := pacerKnownRow.holds Try.pinned (OpenSpec.ofChange pacerKnownSpec)

/-- ITS FALSE NEIGHBOUR: 'it returns false'. Refute it at one input. -/
def pacerKnownWrong : ChangeSpec := { name := "pacerKnown", fn := fun _ => fun
  | [] => { results := [.lit (.bool false)], args := [] }
  | _ => none }
def PacerKnownWrongFalsely : Prop := pacerKnownRow.holds Try.pinned (OpenSpec.ofChange pacerKnownWrong)

/-- 'hostlerlaw35.PacerPlays': WHATEVER THE INPUT: true; the input reads as it did. -/
def pacerPlaysSpec : ChangeSpec := { name := "pacerPlays", fn := fun _ => fun
  | [d1, d2, d3] => { results := [.lit (.bool true)], args := [d1, d2, d3] }
  | _ => none }
def pacerPlaysRow : OpenClaim := { program := "ytfmbbjinlicbgaa", sum := "13919dd5a7e0359e77a2b25b672334efec292b91ce398e167331a26cdfb135e4", func := "hostler/hostlerlaw35.PacerPlays", spec := "pacerPlays", apart := false }
def PacerPlaysSaid : Prop := pacerPlaysRow.holds Try.pinned (OpenSpec.ofChange pacerPlaysSpec)

/-- ITS FALSE NEIGHBOUR: 'it returns false'. Refute it at one input. -/
def pacerPlaysWrong : ChangeSpec := { name := "pacerPlays", fn := fun _ => fun
  | [d1, d2, d3] => { results := [.lit (.bool false)], args := [d1, d2, d3] }
  | _ => none }
def PacerPlaysWrongFalsely : Prop := pacerPlaysRow.holds Try.pinned (OpenSpec.ofChange pacerPlaysWrong)

/- THE SECOND FORM. 'bulk': how many values and letters a reading holds, each counted each time it is reached (what is shared counts as often as it is met; a slice's spare places count too). A statement '..UptoSaid' is the law's where the arguments, and the package variables that the reading takes, are together of bulk at most 1048576: NARROWER than '..Said'. Prove '..Said' where nothing that the law and all that it calls make is longer than what came in: it says more and counts as full. Else prove '..UptoSaid'. A law counts once. -/
mutual
def uptoBulk {H : Type} : DataW H → Nat
  | .lit (.string bytes) => bytes.length + 1
  | .lit _ => 1
  | .nil => 1
  | .ptr d => uptoBulk d + 1
  | .slice elems spare => uptoBulkAll elems + uptoBulkAll spare + 1
  | .agg parts => uptoBulkAll parts + 1
  | .iface _ d => uptoBulk d + 1
  | .map entries => uptoBulkEntries entries + 1
  | .held _ => 1
def uptoBulkAll {H : Type} : List (DataW H) → Nat
  | [] => 0
  | d :: r => uptoBulk d + uptoBulkAll r
def uptoBulkEntries {H : Type} : List (Lit × DataW H) → Nat
  | [] => 0
  | x :: r => uptoBulkEntry x + uptoBulkEntries r
def uptoBulkEntry {H : Type} : Lit × DataW H → Nat
  | (.string bytes, d) => bytes.length + uptoBulk d + 1
  | (_, d) => uptoBulk d + 1
 end
def uptoSmall : (H : Type) → List (DataW H) → Bool := fun _ ds => decide (uptoBulkAll ds ≤ 1048576)
def OpenSpec.upto (s : _root_.Go.ChangeSpec) : _root_.Go.OpenSpec := { _root_.Go.OpenSpec.ofChange s with cond := some uptoSmall }

/-- 'hostlerlaw35.PacerTogether', WHERE WHAT IT READS IS OF BULK AT MOST 1048576: true; the input reads as it did. -/
def pacerTogetherUptoRow : OpenClaim := { program := "ytfmbbjinlicbgaa", sum := "13919dd5a7e0359e77a2b25b672334efec292b91ce398e167331a26cdfb135e4", func := "hostler/hostlerlaw35.PacerTogether", spec := "pacerTogether", apart := false, narrowed := true }
def PacerTogetherUptoSaid : Prop := pacerTogetherUptoRow.holds Try.pinned (OpenSpec.upto pacerTogetherSpec)

/-- 'hostlerlaw35.PacerBounds', WHERE WHAT IT READS IS OF BULK AT MOST 1048576: true; the input reads as it did. -/
def pacerBoundsUptoRow : OpenClaim := { program := "ytfmbbjinlicbgaa", sum := "13919dd5a7e0359e77a2b25b672334efec292b91ce398e167331a26cdfb135e4", func := "hostler/hostlerlaw35.PacerBounds", spec := "pacerBounds", apart := false, narrowed := true }
def PacerBoundsUptoSaid : Prop := pacerBoundsUptoRow.holds Try.pinned (OpenSpec.upto pacerBoundsSpec)

/-- 'hostlerlaw35.PacerWaits', WHERE WHAT IT READS IS OF BULK AT MOST 1048576: true; the input reads as it did. -/
def pacerWaitsUptoRow : OpenClaim := { program := "ytfmbbjinlicbgaa", sum := "13919dd5a7e0359e77a2b25b672334efec292b91ce398e167331a26cdfb135e4", func := "hostler/hostlerlaw35.PacerWaits", spec := "pacerWaits", apart := false, narrowed := true }
def PacerWaitsUptoSaid : Prop := pacerWaitsUptoRow.holds Try.pinned (OpenSpec.upto pacerWaitsSpec)

/-- 'hostlerlaw35.PacerKnown', WHERE WHAT IT READS IS OF BULK AT MOST 1048576: true; the input reads as it did. -/
def pacerKnownUptoRow : OpenClaim := { program := "ytfmbbjinlicbgaa", sum := "13919dd5a7e0359e77a2b25b672334efec292b91ce398e167331a26cdfb135e4", func := "hostler/hostlerlaw35.PacerKnown", spec := "pacerKnown", apart := false, narrowed := true }
def PacerKnownUptoSaid : Prop := pacerKnownUptoRow.holds Try.pinned (OpenSpec.upto pacerKnownSpec)

/-- 'hostlerlaw35.PacerPlays', WHERE WHAT IT READS IS OF BULK AT MOST 1048576: true; the input reads as it did. -/
def pacerPlaysUptoRow : OpenClaim := { program := "ytfmbbjinlicbgaa", sum := "13919dd5a7e0359e77a2b25b672334efec292b91ce398e167331a26cdfb135e4", func := "hostler/hostlerlaw35.PacerPlays", spec := "pacerPlays", apart := false, narrowed := true }
def PacerPlaysUptoSaid : Prop := pacerPlaysUptoRow.holds Try.pinned (OpenSpec.upto pacerPlaysSpec)

end Rows
end Go.Proofs.Ytfmbbjinlicbgaa
