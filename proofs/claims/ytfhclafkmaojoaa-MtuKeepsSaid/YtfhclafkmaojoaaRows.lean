/-
  No cell of these rows narrows 'for every input' (looked for: loops, veiled, ifaces, maps, wideKeys, modest, calm, conditions, laid).
  DERIVED. THE GIVEN ROWS OF THIS SEAT. 4 by the template 'for every input the law returns true; each argument reads behind the call as it read before'; 0 by the template 'total and deterministic' (their statements: YtfhclafkmaojoaaTotals.lean).
  GIVEN WITH THE SEED: the statements are not yours to turn. If you find one false, say at which input.
  Laid BY PROGRAM, IN A SANDBOX (cutbox-rows.mjs): the forced cells as the released guide's own fill.sh prints them over the translation 70d7f3f1bab280dc… (all of the seat's roots in one cut). By AI agents, Wed Nov 11 2026. No macro, syntax, notation, axiom, sorry.
-/
import Derived.Test.YtfhclafkmaojoaaChecked
import GoSem.Claim
import GoSem.ClaimJoined
import GoSem.ClaimMapViews
import Derived.JoinedTies
import Derived.KernelRfl
namespace Go.Proofs.Ytfhclafkmaojoaa
/- THE CELL 'sum', in the pinned program and in every row, IS THE sha256 OF THE DUMP (.gsa) THAT YtfhclafkmaojoaaProg.lean LOADS. Nothing in Lean hashes anything: it is a label: what it is worth is what the hold of that sum in a sandbox is worth. -/
noncomputable def Try.pinned : Pinned := { name := "ytfhclafkmaojoaa", sum := "70d7f3f1bab280dcb3f02a87134f968bf53dbd27e3671fdae100e45ff46d1f70", checked := Try.checked }
namespace Rows
def none {H : Type} : Left H := { results := [], args := [] }

/-- 'hostlerlaw36.MtuFinds': WHATEVER THE INPUT: true; the input reads as it did. -/
def mtuFindsSpec : ChangeSpec := { name := "mtuFinds", fn := fun _ => fun
  | [d1, d2] => { results := [.lit (.bool true)], args := [d1, d2] }
  | _ => none }
def mtuFindsRow : OpenClaim := { program := "ytfhclafkmaojoaa", sum := "70d7f3f1bab280dcb3f02a87134f968bf53dbd27e3671fdae100e45ff46d1f70", func := "hostler/hostlerlaw36.MtuFinds", spec := "mtuFinds", apart := false }
def MtuFindsSaid : Prop := mtuFindsRow.holds Try.pinned (OpenSpec.ofChange mtuFindsSpec)

/-- ITS FALSE NEIGHBOUR: 'it returns false'. Refute it at one input. -/
def mtuFindsWrong : ChangeSpec := { name := "mtuFinds", fn := fun _ => fun
  | [d1, d2] => { results := [.lit (.bool false)], args := [d1, d2] }
  | _ => none }
def MtuFindsWrongFalsely : Prop := mtuFindsRow.holds Try.pinned (OpenSpec.ofChange mtuFindsWrong)

/-- 'hostlerlaw36.MtuKnown': WHATEVER THE INPUT: true; the input reads as it did. -/
def mtuKnownSpec : ChangeSpec := { name := "mtuKnown", fn := fun _ => fun
  | [] => { results := [.lit (.bool true)], args := [] }
  | _ => none }
def mtuKnownRow : OpenClaim := { program := "ytfhclafkmaojoaa", sum := "70d7f3f1bab280dcb3f02a87134f968bf53dbd27e3671fdae100e45ff46d1f70", func := "hostler/hostlerlaw36.MtuKnown", spec := "mtuKnown", apart := false }
def MtuKnownSaid : Prop := mtuKnownRow.holds Try.pinned (OpenSpec.ofChange mtuKnownSpec)

/-- ITS FALSE NEIGHBOUR: 'it returns false'. Refute it at one input. -/
def mtuKnownWrong : ChangeSpec := { name := "mtuKnown", fn := fun _ => fun
  | [] => { results := [.lit (.bool false)], args := [] }
  | _ => none }
def MtuKnownWrongFalsely : Prop := mtuKnownRow.holds Try.pinned (OpenSpec.ofChange mtuKnownWrong)

/-- 'hostlerlaw36.MtuKeeps': WHATEVER THE INPUT: true; the input reads as it did. -/
def mtuKeepsSpec : ChangeSpec := { name := "mtuKeeps", fn := fun _ => fun
  | [d1, d2] => { results := [.lit (.bool true)], args := [d1, d2] }
  | _ => none }
def mtuKeepsRow : OpenClaim := { program := "ytfhclafkmaojoaa", sum := "70d7f3f1bab280dcb3f02a87134f968bf53dbd27e3671fdae100e45ff46d1f70", func := "hostler/hostlerlaw36.MtuKeeps", spec := "mtuKeeps", apart := false }
def MtuKeepsSaid : Prop := mtuKeepsRow.holds Try.pinned (OpenSpec.ofChange mtuKeepsSpec)

/-- ITS FALSE NEIGHBOUR: 'it returns false'. Refute it at one input. -/
def mtuKeepsWrong : ChangeSpec := { name := "mtuKeeps", fn := fun _ => fun
  | [d1, d2] => { results := [.lit (.bool false)], args := [d1, d2] }
  | _ => none }
def MtuKeepsWrongFalsely : Prop := mtuKeepsRow.holds Try.pinned (OpenSpec.ofChange mtuKeepsWrong)

/-- 'hostlerlaw36.MtuFalls': WHATEVER THE INPUT: true; the input reads as it did. -/
def mtuFallsSpec : ChangeSpec := { name := "mtuFalls", fn := fun _ => fun
  | [d1, d2, d3] => { results := [.lit (.bool true)], args := [d1, d2, d3] }
  | _ => none }
def mtuFallsRow : OpenClaim := { program := "ytfhclafkmaojoaa", sum := "70d7f3f1bab280dcb3f02a87134f968bf53dbd27e3671fdae100e45ff46d1f70", func := "hostler/hostlerlaw36.MtuFalls", spec := "mtuFalls", apart := false }
def MtuFallsSaid : Prop := mtuFallsRow.holds Try.pinned (OpenSpec.ofChange mtuFallsSpec)

/-- ITS FALSE NEIGHBOUR: 'it returns false'. Refute it at one input. -/
def mtuFallsWrong : ChangeSpec := { name := "mtuFalls", fn := fun _ => fun
  | [d1, d2, d3] => { results := [.lit (.bool false)], args := [d1, d2, d3] }
  | _ => none }
def MtuFallsWrongFalsely : Prop := mtuFallsRow.holds Try.pinned (OpenSpec.ofChange mtuFallsWrong)

/- THE SECOND FORM. 'bulk': how many values and letters a reading holds, each counted each time it is reached (what is shared counts as often as it is met; a slice's spare places count too). A statement '..UptoSaid' is the law's where the arguments, and the package variables that the reading takes, are together of bulk at most 1048576: NARROWER than '..Said'. Prove '..Said' where nothing that the law and all that it calls make is longer than what came in: it says more and counts as full. Else prove '..UptoSaid'. A law counts once. -/
mutual
def uptoBulk {H : Type} : DataW H → Nat
  | .lit (.string bytes) => bytes.length + 1
  | .lit _ => 1
  | .nil => 1
  | .ptr d => uptoBulk d + 1
  | .slice elems spare => uptoBulkAll elems + uptoBulkAll spare + 1
  | .agg parts => uptoBulkAll parts + 1
  | .iface _ d => uptoBulk d + 1
  | .map entries => uptoBulkEntries entries + 1
  | .held _ => 1
def uptoBulkAll {H : Type} : List (DataW H) → Nat
  | [] => 0
  | d :: r => uptoBulk d + uptoBulkAll r
def uptoBulkEntries {H : Type} : List (Lit × DataW H) → Nat
  | [] => 0
  | x :: r => uptoBulkEntry x + uptoBulkEntries r
def uptoBulkEntry {H : Type} : Lit × DataW H → Nat
  | (.string bytes, d) => bytes.length + uptoBulk d + 1
  | (_, d) => uptoBulk d + 1
 end
def uptoSmall : (H : Type) → List (DataW H) → Bool := fun _ ds => decide (uptoBulkAll ds ≤ 1048576)
def OpenSpec.upto (s : _root_.Go.ChangeSpec) : _root_.Go.OpenSpec := { _root_.Go.OpenSpec.ofChange s with cond := some uptoSmall }

/-- 'hostlerlaw36.MtuFinds', WHERE WHAT IT READS IS OF BULK AT MOST 1048576: true; the input reads as it did. -/
def mtuFindsUptoRow : OpenClaim := { program := "ytfhclafkmaojoaa", sum := "70d7f3f1bab280dcb3f02a87134f968bf53dbd27e3671fdae100e45ff46d1f70", func := "hostler/hostlerlaw36.MtuFinds", spec := "mtuFinds", apart := false, narrowed := true }
def MtuFindsUptoSaid : Prop := mtuFindsUptoRow.holds Try.pinned (OpenSpec.upto mtuFindsSpec)

/-- 'hostlerlaw36.MtuKnown', WHERE WHAT IT READS IS OF BULK AT MOST 1048576: true; the input reads as it did. -/
def mtuKnownUptoRow : OpenClaim := { program := "ytfhclafkmaojoaa", sum := "70d7f3f1bab280dcb3f02a87134f968bf53dbd27e3671fdae100e45ff46d1f70", func := "hostler/hostlerlaw36.MtuKnown", spec := "mtuKnown", apart := false, narrowed := true }
def MtuKnownUptoSaid : Prop := mtuKnownUptoRow.holds Try.pinned (OpenSpec.upto mtuKnownSpec)

/-- 'hostlerlaw36.MtuKeeps', WHERE WHAT IT READS IS OF BULK AT MOST 1048576: true; the input reads as it did. -/
def mtuKeepsUptoRow : OpenClaim := { program := "ytfhclafkmaojoaa", sum := "70d7f3f1bab280dcb3f02a87134f968bf53dbd27e3671fdae100e45ff46d1f70", func := "hostler/hostlerlaw36.MtuKeeps", spec := "mtuKeeps", apart := false, narrowed := true }
def MtuKeepsUptoSaid : Prop := mtuKeepsUptoRow.holds Try.pinned (OpenSpec.upto mtuKeepsSpec)

/-- 'hostlerlaw36.MtuFalls', WHERE WHAT IT READS IS OF BULK AT MOST 1048576: true; the input reads as it did. -/
def mtuFallsUptoRow : OpenClaim := { program := "ytfhclafkmaojoaa", sum := "70d7f3f1bab280dcb3f02a87134f968bf53dbd27e3671fdae100e45ff46d1f70", func := "hostler/hostlerlaw36.MtuFalls", spec := "mtuFalls", apart := false, narrowed := true }
def MtuFallsUptoSaid : Prop := mtuFallsUptoRow.holds Try.pinned (OpenSpec.upto mtuFallsSpec)

end Rows
end Go.Proofs.Ytfhclafkmaojoaa
