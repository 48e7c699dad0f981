/-
  No cell of these rows narrows 'for every input' (looked for: loops, veiled, ifaces, maps, wideKeys, modest, calm, conditions, laid).
  DERIVED. THE GIVEN ROWS OF THIS SEAT. 5 by the template 'for every input the law returns true; each argument reads behind the call as it read before'; 0 by the template 'total and deterministic' (their statements: YtakmaocfcmdpmaaTotals.lean).
  GIVEN WITH THE SEED: the statements are not yours to turn. If you find one false, say at which input.
  Laid BY PROGRAM, IN A SANDBOX (cutbox-rows.mjs): the forced cells as the released guide's own fill.sh prints them over the translation 81536e80f08bf4f3… (all of the seat's roots in one cut). By AI agents, Wed Nov 11 2026. No macro, syntax, notation, axiom, sorry.
-/
import Derived.Test.YtakmaocfcmdpmaaChecked
import GoSem.Claim
import GoSem.ClaimJoined
import GoSem.ClaimMapViews
import Derived.JoinedTies
import Derived.KernelRfl
namespace Go.Proofs.Ytakmaocfcmdpmaa
/- THE CELL 'sum', in the pinned program and in every row, IS THE sha256 OF THE DUMP (.gsa) THAT YtakmaocfcmdpmaaProg.lean LOADS. Nothing in Lean hashes anything: it is a label: what it is worth is what the hold of that sum in a sandbox is worth. -/
noncomputable def Try.pinned : Pinned := { name := "ytakmaocfcmdpmaa", sum := "81536e80f08bf4f3f4518aeeb990b3601d0b471fe42e3d939c75db2bde91665d", checked := Try.checked }
namespace Rows
def none {H : Type} : Left H := { results := [], args := [] }

/-- 'hostlerlaw34.VnegChooses': WHATEVER THE INPUT: true; the input reads as it did. -/
def vnegChoosesSpec : ChangeSpec := { name := "vnegChooses", fn := fun _ => fun
  | [d1, d2, d3] => { results := [.lit (.bool true)], args := [d1, d2, d3] }
  | _ => none }
def vnegChoosesRow : OpenClaim := { program := "ytakmaocfcmdpmaa", sum := "81536e80f08bf4f3f4518aeeb990b3601d0b471fe42e3d939c75db2bde91665d", func := "hostler/hostlerlaw34.VnegChooses", spec := "vnegChooses", apart := false }
def VnegChoosesSaid : Prop := vnegChoosesRow.holds Try.pinned (OpenSpec.ofChange vnegChoosesSpec)

/-- ITS FALSE NEIGHBOUR: 'it returns false'. Refute it at one input. -/
def vnegChoosesWrong : ChangeSpec := { name := "vnegChooses", fn := fun _ => fun
  | [d1, d2, d3] => { results := [.lit (.bool false)], args := [d1, d2, d3] }
  | _ => none }
def VnegChoosesWrongFalsely : Prop := vnegChoosesRow.holds Try.pinned (OpenSpec.ofChange vnegChoosesWrong)

/-- 'hostlerlaw34.VnegReplies': WHATEVER THE INPUT: true; the input reads as it did. -/
def vnegRepliesSpec : ChangeSpec := { name := "vnegReplies", fn := fun _ => fun
  | [d1, d2, d3, d4, d5, d6] => { results := [.lit (.bool true)], args := [d1, d2, d3, d4, d5, d6] }
  | _ => none }
def vnegRepliesRow : OpenClaim := { program := "ytakmaocfcmdpmaa", sum := "81536e80f08bf4f3f4518aeeb990b3601d0b471fe42e3d939c75db2bde91665d", func := "hostler/hostlerlaw34.VnegReplies", spec := "vnegReplies", unfollowed := true, recurses := true, apart := false }
def VnegRepliesSaid : Prop := vnegRepliesRow.holds Try.pinned (OpenSpec.ofChange vnegRepliesSpec)

/-- ITS FALSE NEIGHBOUR: 'it returns false'. Refute it at one input. -/
def vnegRepliesWrong : ChangeSpec := { name := "vnegReplies", fn := fun _ => fun
  | [d1, d2, d3, d4, d5, d6] => { results := [.lit (.bool false)], args := [d1, d2, d3, d4, d5, d6] }
  | _ => none }
def VnegRepliesWrongFalsely : Prop := vnegRepliesRow.holds Try.pinned (OpenSpec.ofChange vnegRepliesWrong)

/-- 'hostlerlaw34.VnegPackets': WHATEVER THE INPUT: true; the input reads as it did. -/
def vnegPacketsSpec : ChangeSpec := { name := "vnegPackets", fn := fun _ => fun
  | [d1, d2] => { results := [.lit (.bool true)], args := [d1, d2] }
  | _ => none }
def vnegPacketsRow : OpenClaim := { program := "ytakmaocfcmdpmaa", sum := "81536e80f08bf4f3f4518aeeb990b3601d0b471fe42e3d939c75db2bde91665d", func := "hostler/hostlerlaw34.VnegPackets", spec := "vnegPackets", unfollowed := true, recurses := true, apart := false }
def VnegPacketsSaid : Prop := vnegPacketsRow.holds Try.pinned (OpenSpec.ofChange vnegPacketsSpec)

/-- ITS FALSE NEIGHBOUR: 'it returns false'. Refute it at one input. -/
def vnegPacketsWrong : ChangeSpec := { name := "vnegPackets", fn := fun _ => fun
  | [d1, d2] => { results := [.lit (.bool false)], args := [d1, d2] }
  | _ => none }
def VnegPacketsWrongFalsely : Prop := vnegPacketsRow.holds Try.pinned (OpenSpec.ofChange vnegPacketsWrong)

/-- 'hostlerlaw34.VnegKnown': WHATEVER THE INPUT: true; the input reads as it did. -/
def vnegKnownSpec : ChangeSpec := { name := "vnegKnown", fn := fun _ => fun
  | [] => { results := [.lit (.bool true)], args := [] }
  | _ => none }
def vnegKnownRow : OpenClaim := { program := "ytakmaocfcmdpmaa", sum := "81536e80f08bf4f3f4518aeeb990b3601d0b471fe42e3d939c75db2bde91665d", func := "hostler/hostlerlaw34.VnegKnown", spec := "vnegKnown", unfollowed := true, recurses := true, apart := false }
def VnegKnownSaid : Prop := vnegKnownRow.holds Try.pinned (OpenSpec.ofChange vnegKnownSpec)

/-- ITS FALSE NEIGHBOUR: 'it returns false'. Refute it at one input. -/
def vnegKnownWrong : ChangeSpec := { name := "vnegKnown", fn := fun _ => fun
  | [] => { results := [.lit (.bool false)], args := [] }
  | _ => none }
def VnegKnownWrongFalsely : Prop := vnegKnownRow.holds Try.pinned (OpenSpec.ofChange vnegKnownWrong)

/-- 'hostlerlaw34.VnegMeets': WHATEVER THE INPUT: true; the input reads as it did. -/
def vnegMeetsSpec : ChangeSpec := { name := "vnegMeets", fn := fun _ => fun
  | [d1, d2, d3, d4, d5, d6] => { results := [.lit (.bool true)], args := [d1, d2, d3, d4, d5, d6] }
  | _ => none }
def vnegMeetsRow : OpenClaim := { program := "ytakmaocfcmdpmaa", sum := "81536e80f08bf4f3f4518aeeb990b3601d0b471fe42e3d939c75db2bde91665d", func := "hostler/hostlerlaw34.VnegMeets", spec := "vnegMeets", unfollowed := true, recurses := true, apart := false }
def VnegMeetsSaid : Prop := vnegMeetsRow.holds Try.pinned (OpenSpec.ofChange vnegMeetsSpec)

/-- ITS FALSE NEIGHBOUR: 'it returns false'. Refute it at one input. -/
def vnegMeetsWrong : ChangeSpec := { name := "vnegMeets", fn := fun _ => fun
  | [d1, d2, d3, d4, d5, d6] => { results := [.lit (.bool false)], args := [d1, d2, d3, d4, d5, d6] }
  | _ => none }
def VnegMeetsWrongFalsely : Prop := vnegMeetsRow.holds Try.pinned (OpenSpec.ofChange vnegMeetsWrong)

/- THE SECOND FORM. 'bulk': how many values and letters a reading holds, each counted each time it is reached (what is shared counts as often as it is met; a slice's spare places count too). A statement '..UptoSaid' is the law's where the arguments, and the package variables that the reading takes, are together of bulk at most 1048576: NARROWER than '..Said'. Prove '..Said' where nothing that the law and all that it calls make is longer than what came in: it says more and counts as full. Else prove '..UptoSaid'. A law counts once. -/
mutual
def uptoBulk {H : Type} : DataW H → Nat
  | .lit (.string bytes) => bytes.length + 1
  | .lit _ => 1
  | .nil => 1
  | .ptr d => uptoBulk d + 1
  | .slice elems spare => uptoBulkAll elems + uptoBulkAll spare + 1
  | .agg parts => uptoBulkAll parts + 1
  | .iface _ d => uptoBulk d + 1
  | .map entries => uptoBulkEntries entries + 1
  | .held _ => 1
def uptoBulkAll {H : Type} : List (DataW H) → Nat
  | [] => 0
  | d :: r => uptoBulk d + uptoBulkAll r
def uptoBulkEntries {H : Type} : List (Lit × DataW H) → Nat
  | [] => 0
  | x :: r => uptoBulkEntry x + uptoBulkEntries r
def uptoBulkEntry {H : Type} : Lit × DataW H → Nat
  | (.string bytes, d) => bytes.length + uptoBulk d + 1
  | (_, d) => uptoBulk d + 1
 end
def uptoSmall : (H : Type) → List (DataW H) → Bool := fun _ ds => decide (uptoBulkAll ds ≤ 1048576)
def OpenSpec.upto (s : _root_.Go.ChangeSpec) : _root_.Go.OpenSpec := { _root_.Go.OpenSpec.ofChange s with cond := some uptoSmall }

/-- 'hostlerlaw34.VnegChooses', WHERE WHAT IT READS IS OF BULK AT MOST 1048576: true; the input reads as it did. -/
def vnegChoosesUptoRow : OpenClaim := { program := "ytakmaocfcmdpmaa", sum := "81536e80f08bf4f3f4518aeeb990b3601d0b471fe42e3d939c75db2bde91665d", func := "hostler/hostlerlaw34.VnegChooses", spec := "vnegChooses", apart := false, narrowed := true }
def VnegChoosesUptoSaid : Prop := vnegChoosesUptoRow.holds Try.pinned (OpenSpec.upto vnegChoosesSpec)

/-- 'hostlerlaw34.VnegReplies', WHERE WHAT IT READS IS OF BULK AT MOST 1048576: true; the input reads as it did. -/
def vnegRepliesUptoRow : OpenClaim := { program := "ytakmaocfcmdpmaa", sum := "81536e80f08bf4f3f4518aeeb990b3601d0b471fe42e3d939c75db2bde91665d", func := "hostler/hostlerlaw34.VnegReplies", spec := "vnegReplies", unfollowed := true, recurses := true, apart := false, narrowed := true }
def VnegRepliesUptoSaid : Prop := vnegRepliesUptoRow.holds Try.pinned (OpenSpec.upto vnegRepliesSpec)

/-- 'hostlerlaw34.VnegPackets', WHERE WHAT IT READS IS OF BULK AT MOST 1048576: true; the input reads as it did. -/
def vnegPacketsUptoRow : OpenClaim := { program := "ytakmaocfcmdpmaa", sum := "81536e80f08bf4f3f4518aeeb990b3601d0b471fe42e3d939c75db2bde91665d", func := "hostler/hostlerlaw34.VnegPackets", spec := "vnegPackets", unfollowed := true, recurses := true, apart := false, narrowed := true }
def VnegPacketsUptoSaid : Prop := vnegPacketsUptoRow.holds Try.pinned (OpenSpec.upto vnegPacketsSpec)

/-- 'hostlerlaw34.VnegKnown', WHERE WHAT IT READS IS OF BULK AT MOST 1048576: true; the input reads as it did. -/
def vnegKnownUptoRow : OpenClaim := { program := "ytakmaocfcmdpmaa", sum := "81536e80f08bf4f3f4518aeeb990b3601d0b471fe42e3d939c75db2bde91665d", func := "hostler/hostlerlaw34.VnegKnown", spec := "vnegKnown", unfollowed := true, recurses := true, apart := false, narrowed := true }
def VnegKnownUptoSaid : Prop := vnegKnownUptoRow.holds Try.pinned (OpenSpec.upto vnegKnownSpec)

/-- 'hostlerlaw34.VnegMeets', WHERE WHAT IT READS IS OF BULK AT MOST 1048576: true; the input reads as it did. -/
def vnegMeetsUptoRow : OpenClaim := { program := "ytakmaocfcmdpmaa", sum := "81536e80f08bf4f3f4518aeeb990b3601d0b471fe42e3d939c75db2bde91665d", func := "hostler/hostlerlaw34.VnegMeets", spec := "vnegMeets", unfollowed := true, recurses := true, apart := false, narrowed := true }
def VnegMeetsUptoSaid : Prop := vnegMeetsUptoRow.holds Try.pinned (OpenSpec.upto vnegMeetsSpec)

end Rows
end Go.Proofs.Ytakmaocfcmdpmaa
