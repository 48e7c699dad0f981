/-
  No cell of these rows narrows 'for every input' (looked for: loops, veiled, ifaces, maps, wideKeys, modest, calm, conditions, laid).
  DERIVED. THE GIVEN ROWS OF THIS SEAT. 10 by the template 'for every input the law returns true; each argument reads behind the call as it read before'; 0 by the template 'total and deterministic' (their statements: YtepkbllcaeceeaaTotals.lean).
  GIVEN WITH THE SEED: the statements are not yours to turn. If you find one false, say at which input.
  Laid BY PROGRAM, IN A SANDBOX (cutbox-rows.mjs): the forced cells as the released guide's own fill.sh prints them over the translation 8e098a26b05c243f… (all of the seat's roots in one cut). By AI agents, Wed Nov 11 2026. No macro, syntax, notation, axiom, sorry.
-/
import Derived.Test.YtepkbllcaeceeaaChecked
import GoSem.Claim
import GoSem.ClaimJoined
import GoSem.ClaimMapViews
import Derived.JoinedTies
import Derived.KernelRfl
namespace Go.Proofs.Ytepkbllcaeceeaa
/- THE CELL 'sum', in the pinned program and in every row, IS THE sha256 OF THE DUMP (.gsa) THAT YtepkbllcaeceeaaProg.lean LOADS. Nothing in Lean hashes anything: it is a label: what it is worth is what the hold of that sum in a sandbox is worth. -/
noncomputable def Try.pinned : Pinned := { name := "ytepkbllcaeceeaa", sum := "8e098a26b05c243f807705bf43f5f66949cecd26d7a852fe6a3f11c27855132f", checked := Try.checked }
namespace Rows
def none {H : Type} : Left H := { results := [], args := [] }

/-- 'hostlerlaw06.ShaSums': WHATEVER THE INPUT: true; the input reads as it did. -/
def shaSumsSpec : ChangeSpec := { name := "shaSums", fn := fun _ => fun
  | [d] => { results := [.lit (.bool true)], args := [d] }
  | _ => none }
def shaSumsRow : OpenClaim := { program := "ytepkbllcaeceeaa", sum := "8e098a26b05c243f807705bf43f5f66949cecd26d7a852fe6a3f11c27855132f", func := "hostler/hostlerlaw06.ShaSums", spec := "shaSums", unfollowed := true, recurses := true, apart := false }
def ShaSumsSaid : Prop := shaSumsRow.holds Try.pinned (OpenSpec.ofChange shaSumsSpec)

/-- ITS FALSE NEIGHBOUR: 'it returns false'. Refute it at one input. -/
def shaSumsWrong : ChangeSpec := { name := "shaSums", fn := fun _ => fun
  | [d] => { results := [.lit (.bool false)], args := [d] }
  | _ => none }
def ShaSumsWrongFalsely : Prop := shaSumsRow.holds Try.pinned (OpenSpec.ofChange shaSumsWrong)

/-- 'hostlerlaw06.ShaCut': WHATEVER THE INPUT: true; the input reads as it did. -/
def shaCutSpec : ChangeSpec := { name := "shaCut", fn := fun _ => fun
  | [d1, d2, d3] => { results := [.lit (.bool true)], args := [d1, d2, d3] }
  | _ => none }
def shaCutRow : OpenClaim := { program := "ytepkbllcaeceeaa", sum := "8e098a26b05c243f807705bf43f5f66949cecd26d7a852fe6a3f11c27855132f", func := "hostler/hostlerlaw06.ShaCut", spec := "shaCut", unfollowed := true, recurses := true, apart := false }
def ShaCutSaid : Prop := shaCutRow.holds Try.pinned (OpenSpec.ofChange shaCutSpec)

/-- ITS FALSE NEIGHBOUR: 'it returns false'. Refute it at one input. -/
def shaCutWrong : ChangeSpec := { name := "shaCut", fn := fun _ => fun
  | [d1, d2, d3] => { results := [.lit (.bool false)], args := [d1, d2, d3] }
  | _ => none }
def ShaCutWrongFalsely : Prop := shaCutRow.holds Try.pinned (OpenSpec.ofChange shaCutWrong)

/-- 'hostlerlaw08.AesApart': WHATEVER THE INPUT: true; the input reads as it did. -/
def aesApartSpec : ChangeSpec := { name := "aesApart", fn := fun _ => fun
  | [d1, d2, d3, d4, d5] => { results := [.lit (.bool true)], args := [d1, d2, d3, d4, d5] }
  | _ => none }
def aesApartRow : OpenClaim := { program := "ytepkbllcaeceeaa", sum := "8e098a26b05c243f807705bf43f5f66949cecd26d7a852fe6a3f11c27855132f", func := "hostler/hostlerlaw08.AesApart", spec := "aesApart", unfollowed := true, recurses := true, apart := false }
def AesApartSaid : Prop := aesApartRow.holds Try.pinned (OpenSpec.ofChange aesApartSpec)

/-- ITS FALSE NEIGHBOUR: 'it returns false'. Refute it at one input. -/
def aesApartWrong : ChangeSpec := { name := "aesApart", fn := fun _ => fun
  | [d1, d2, d3, d4, d5] => { results := [.lit (.bool false)], args := [d1, d2, d3, d4, d5] }
  | _ => none }
def AesApartWrongFalsely : Prop := aesApartRow.holds Try.pinned (OpenSpec.ofChange aesApartWrong)

/-- 'hostlerlaw08.AesSeals': WHATEVER THE INPUT: true; the input reads as it did. -/
def aesSealsSpec : ChangeSpec := { name := "aesSeals", fn := fun _ => fun
  | [d1, d2, d3] => { results := [.lit (.bool true)], args := [d1, d2, d3] }
  | _ => none }
def aesSealsRow : OpenClaim := { program := "ytepkbllcaeceeaa", sum := "8e098a26b05c243f807705bf43f5f66949cecd26d7a852fe6a3f11c27855132f", func := "hostler/hostlerlaw08.AesSeals", spec := "aesSeals", unfollowed := true, recurses := true, apart := false }
def AesSealsSaid : Prop := aesSealsRow.holds Try.pinned (OpenSpec.ofChange aesSealsSpec)

/-- ITS FALSE NEIGHBOUR: 'it returns false'. Refute it at one input. -/
def aesSealsWrong : ChangeSpec := { name := "aesSeals", fn := fun _ => fun
  | [d1, d2, d3] => { results := [.lit (.bool false)], args := [d1, d2, d3] }
  | _ => none }
def AesSealsWrongFalsely : Prop := aesSealsRow.holds Try.pinned (OpenSpec.ofChange aesSealsWrong)

/-- 'hostlerlaw07.KdfMacs': WHATEVER THE INPUT: true; the input reads as it did. -/
def kdfMacsSpec : ChangeSpec := { name := "kdfMacs", fn := fun _ => fun
  | [d1, d2] => { results := [.lit (.bool true)], args := [d1, d2] }
  | _ => none }
def kdfMacsRow : OpenClaim := { program := "ytepkbllcaeceeaa", sum := "8e098a26b05c243f807705bf43f5f66949cecd26d7a852fe6a3f11c27855132f", func := "hostler/hostlerlaw07.KdfMacs", spec := "kdfMacs", unfollowed := true, recurses := true, apart := false }
def KdfMacsSaid : Prop := kdfMacsRow.holds Try.pinned (OpenSpec.ofChange kdfMacsSpec)

/-- ITS FALSE NEIGHBOUR: 'it returns false'. Refute it at one input. -/
def kdfMacsWrong : ChangeSpec := { name := "kdfMacs", fn := fun _ => fun
  | [d1, d2] => { results := [.lit (.bool false)], args := [d1, d2] }
  | _ => none }
def KdfMacsWrongFalsely : Prop := kdfMacsRow.holds Try.pinned (OpenSpec.ofChange kdfMacsWrong)

/-- 'hostlerlaw07.KdfFirst': WHATEVER THE INPUT: true; the input reads as it did. -/
def kdfFirstSpec : ChangeSpec := { name := "kdfFirst", fn := fun _ => fun
  | [d1, d2, d3, d4, d5] => { results := [.lit (.bool true)], args := [d1, d2, d3, d4, d5] }
  | _ => none }
def kdfFirstRow : OpenClaim := { program := "ytepkbllcaeceeaa", sum := "8e098a26b05c243f807705bf43f5f66949cecd26d7a852fe6a3f11c27855132f", func := "hostler/hostlerlaw07.KdfFirst", spec := "kdfFirst", unfollowed := true, recurses := true, apart := false }
def KdfFirstSaid : Prop := kdfFirstRow.holds Try.pinned (OpenSpec.ofChange kdfFirstSpec)

/-- ITS FALSE NEIGHBOUR: 'it returns false'. Refute it at one input. -/
def kdfFirstWrong : ChangeSpec := { name := "kdfFirst", fn := fun _ => fun
  | [d1, d2, d3, d4, d5] => { results := [.lit (.bool false)], args := [d1, d2, d3, d4, d5] }
  | _ => none }
def KdfFirstWrongFalsely : Prop := kdfFirstRow.holds Try.pinned (OpenSpec.ofChange kdfFirstWrong)

/-- 'hostlerlaw07.KdfExpands': WHATEVER THE INPUT: true; the input reads as it did. -/
def kdfExpandsSpec : ChangeSpec := { name := "kdfExpands", fn := fun _ => fun
  | [d1, d2, d3, d4] => { results := [.lit (.bool true)], args := [d1, d2, d3, d4] }
  | _ => none }
def kdfExpandsRow : OpenClaim := { program := "ytepkbllcaeceeaa", sum := "8e098a26b05c243f807705bf43f5f66949cecd26d7a852fe6a3f11c27855132f", func := "hostler/hostlerlaw07.KdfExpands", spec := "kdfExpands", unfollowed := true, recurses := true, apart := false }
def KdfExpandsSaid : Prop := kdfExpandsRow.holds Try.pinned (OpenSpec.ofChange kdfExpandsSpec)

/-- ITS FALSE NEIGHBOUR: 'it returns false'. Refute it at one input. -/
def kdfExpandsWrong : ChangeSpec := { name := "kdfExpands", fn := fun _ => fun
  | [d1, d2, d3, d4] => { results := [.lit (.bool false)], args := [d1, d2, d3, d4] }
  | _ => none }
def KdfExpandsWrongFalsely : Prop := kdfExpandsRow.holds Try.pinned (OpenSpec.ofChange kdfExpandsWrong)

/-- 'hostlerlaw09.GcmSeals': WHATEVER THE INPUT: true; the input reads as it did. -/
def gcmSealsSpec : ChangeSpec := { name := "gcmSeals", fn := fun _ => fun
  | [d1, d2, d3, d4] => { results := [.lit (.bool true)], args := [d1, d2, d3, d4] }
  | _ => none }
def gcmSealsRow : OpenClaim := { program := "ytepkbllcaeceeaa", sum := "8e098a26b05c243f807705bf43f5f66949cecd26d7a852fe6a3f11c27855132f", func := "hostler/hostlerlaw09.GcmSeals", spec := "gcmSeals", unfollowed := true, recurses := true, apart := false }
def GcmSealsSaid : Prop := gcmSealsRow.holds Try.pinned (OpenSpec.ofChange gcmSealsSpec)

/-- ITS FALSE NEIGHBOUR: 'it returns false'. Refute it at one input. -/
def gcmSealsWrong : ChangeSpec := { name := "gcmSeals", fn := fun _ => fun
  | [d1, d2, d3, d4] => { results := [.lit (.bool false)], args := [d1, d2, d3, d4] }
  | _ => none }
def GcmSealsWrongFalsely : Prop := gcmSealsRow.holds Try.pinned (OpenSpec.ofChange gcmSealsWrong)

/-- 'hostlerlaw09.GcmBack': WHATEVER THE INPUT: true; the input reads as it did. -/
def gcmBackSpec : ChangeSpec := { name := "gcmBack", fn := fun _ => fun
  | [d1, d2, d3, d4, d5] => { results := [.lit (.bool true)], args := [d1, d2, d3, d4, d5] }
  | _ => none }
def gcmBackRow : OpenClaim := { program := "ytepkbllcaeceeaa", sum := "8e098a26b05c243f807705bf43f5f66949cecd26d7a852fe6a3f11c27855132f", func := "hostler/hostlerlaw09.GcmBack", spec := "gcmBack", unfollowed := true, recurses := true, apart := false }
def GcmBackSaid : Prop := gcmBackRow.holds Try.pinned (OpenSpec.ofChange gcmBackSpec)

/-- ITS FALSE NEIGHBOUR: 'it returns false'. Refute it at one input. -/
def gcmBackWrong : ChangeSpec := { name := "gcmBack", fn := fun _ => fun
  | [d1, d2, d3, d4, d5] => { results := [.lit (.bool false)], args := [d1, d2, d3, d4, d5] }
  | _ => none }
def GcmBackWrongFalsely : Prop := gcmBackRow.holds Try.pinned (OpenSpec.ofChange gcmBackWrong)

/-- 'hostlerlaw09.GcmJoins': WHATEVER THE INPUT: true; the input reads as it did. -/
def gcmJoinsSpec : ChangeSpec := { name := "gcmJoins", fn := fun _ => fun
  | [d1, d2, d3] => { results := [.lit (.bool true)], args := [d1, d2, d3] }
  | _ => none }
def gcmJoinsRow : OpenClaim := { program := "ytepkbllcaeceeaa", sum := "8e098a26b05c243f807705bf43f5f66949cecd26d7a852fe6a3f11c27855132f", func := "hostler/hostlerlaw09.GcmJoins", spec := "gcmJoins", unfollowed := true, recurses := true, apart := false }
def GcmJoinsSaid : Prop := gcmJoinsRow.holds Try.pinned (OpenSpec.ofChange gcmJoinsSpec)

/-- ITS FALSE NEIGHBOUR: 'it returns false'. Refute it at one input. -/
def gcmJoinsWrong : ChangeSpec := { name := "gcmJoins", fn := fun _ => fun
  | [d1, d2, d3] => { results := [.lit (.bool false)], args := [d1, d2, d3] }
  | _ => none }
def GcmJoinsWrongFalsely : Prop := gcmJoinsRow.holds Try.pinned (OpenSpec.ofChange gcmJoinsWrong)

/- THE SECOND FORM. 'bulk': how many values and letters a reading holds, each counted each time it is reached (what is shared counts as often as it is met; a slice's spare places count too). A statement '..UptoSaid' is the law's where the arguments, and the package variables that the reading takes, are together of bulk at most 1048576: NARROWER than '..Said'. Prove '..Said' where nothing that the law and all that it calls make is longer than what came in: it says more and counts as full. Else prove '..UptoSaid'. A law counts once. -/
mutual
def uptoBulk {H : Type} : DataW H → Nat
  | .lit (.string bytes) => bytes.length + 1
  | .lit _ => 1
  | .nil => 1
  | .ptr d => uptoBulk d + 1
  | .slice elems spare => uptoBulkAll elems + uptoBulkAll spare + 1
  | .agg parts => uptoBulkAll parts + 1
  | .iface _ d => uptoBulk d + 1
  | .map entries => uptoBulkEntries entries + 1
  | .held _ => 1
def uptoBulkAll {H : Type} : List (DataW H) → Nat
  | [] => 0
  | d :: r => uptoBulk d + uptoBulkAll r
def uptoBulkEntries {H : Type} : List (Lit × DataW H) → Nat
  | [] => 0
  | x :: r => uptoBulkEntry x + uptoBulkEntries r
def uptoBulkEntry {H : Type} : Lit × DataW H → Nat
  | (.string bytes, d) => bytes.length + uptoBulk d + 1
  | (_, d) => uptoBulk d + 1
 end
def uptoSmall : (H : Type) → List (DataW H) → Bool := fun _ ds => decide (uptoBulkAll ds ≤ 1048576)
def OpenSpec.upto (s : _root_.Go.ChangeSpec) : _root_.Go.OpenSpec := { _root_.Go.OpenSpec.ofChange s with cond := some uptoSmall }

/-- 'hostlerlaw06.ShaSums', WHERE WHAT IT READS IS OF BULK AT MOST 1048576: true; the input reads as it did. -/
def shaSumsUptoRow : OpenClaim := { program := "ytepkbllcaeceeaa", sum := "8e098a26b05c243f807705bf43f5f66949cecd26d7a852fe6a3f11c27855132f", func := "hostler/hostlerlaw06.ShaSums", spec := "shaSums", unfollowed := true, recurses := true, apart := false, narrowed := true }
def ShaSumsUptoSaid : Prop := shaSumsUptoRow.holds Try.pinned (OpenSpec.upto shaSumsSpec)

/-- 'hostlerlaw06.ShaCut', WHERE WHAT IT READS IS OF BULK AT MOST 1048576: true; the input reads as it did. -/
def shaCutUptoRow : OpenClaim := { program := "ytepkbllcaeceeaa", sum := "8e098a26b05c243f807705bf43f5f66949cecd26d7a852fe6a3f11c27855132f", func := "hostler/hostlerlaw06.ShaCut", spec := "shaCut", unfollowed := true, recurses := true, apart := false, narrowed := true }
def ShaCutUptoSaid : Prop := shaCutUptoRow.holds Try.pinned (OpenSpec.upto shaCutSpec)

/-- 'hostlerlaw08.AesApart', WHERE WHAT IT READS IS OF BULK AT MOST 1048576: true; the input reads as it did. -/
def aesApartUptoRow : OpenClaim := { program := "ytepkbllcaeceeaa", sum := "8e098a26b05c243f807705bf43f5f66949cecd26d7a852fe6a3f11c27855132f", func := "hostler/hostlerlaw08.AesApart", spec := "aesApart", unfollowed := true, recurses := true, apart := false, narrowed := true }
def AesApartUptoSaid : Prop := aesApartUptoRow.holds Try.pinned (OpenSpec.upto aesApartSpec)

/-- 'hostlerlaw08.AesSeals', WHERE WHAT IT READS IS OF BULK AT MOST 1048576: true; the input reads as it did. -/
def aesSealsUptoRow : OpenClaim := { program := "ytepkbllcaeceeaa", sum := "8e098a26b05c243f807705bf43f5f66949cecd26d7a852fe6a3f11c27855132f", func := "hostler/hostlerlaw08.AesSeals", spec := "aesSeals", unfollowed := true, recurses := true, apart := false, narrowed := true }
def AesSealsUptoSaid : Prop := aesSealsUptoRow.holds Try.pinned (OpenSpec.upto aesSealsSpec)

/-- 'hostlerlaw07.KdfMacs', WHERE WHAT IT READS IS OF BULK AT MOST 1048576: true; the input reads as it did. -/
def kdfMacsUptoRow : OpenClaim := { program := "ytepkbllcaeceeaa", sum := "8e098a26b05c243f807705bf43f5f66949cecd26d7a852fe6a3f11c27855132f", func := "hostler/hostlerlaw07.KdfMacs", spec := "kdfMacs", unfollowed := true, recurses := true, apart := false, narrowed := true }
def KdfMacsUptoSaid : Prop := kdfMacsUptoRow.holds Try.pinned (OpenSpec.upto kdfMacsSpec)

/-- 'hostlerlaw07.KdfFirst', WHERE WHAT IT READS IS OF BULK AT MOST 1048576: true; the input reads as it did. -/
def kdfFirstUptoRow : OpenClaim := { program := "ytepkbllcaeceeaa", sum := "8e098a26b05c243f807705bf43f5f66949cecd26d7a852fe6a3f11c27855132f", func := "hostler/hostlerlaw07.KdfFirst", spec := "kdfFirst", unfollowed := true, recurses := true, apart := false, narrowed := true }
def KdfFirstUptoSaid : Prop := kdfFirstUptoRow.holds Try.pinned (OpenSpec.upto kdfFirstSpec)

/-- 'hostlerlaw07.KdfExpands', WHERE WHAT IT READS IS OF BULK AT MOST 1048576: true; the input reads as it did. -/
def kdfExpandsUptoRow : OpenClaim := { program := "ytepkbllcaeceeaa", sum := "8e098a26b05c243f807705bf43f5f66949cecd26d7a852fe6a3f11c27855132f", func := "hostler/hostlerlaw07.KdfExpands", spec := "kdfExpands", unfollowed := true, recurses := true, apart := false, narrowed := true }
def KdfExpandsUptoSaid : Prop := kdfExpandsUptoRow.holds Try.pinned (OpenSpec.upto kdfExpandsSpec)

/-- 'hostlerlaw09.GcmSeals', WHERE WHAT IT READS IS OF BULK AT MOST 1048576: true; the input reads as it did. -/
def gcmSealsUptoRow : OpenClaim := { program := "ytepkbllcaeceeaa", sum := "8e098a26b05c243f807705bf43f5f66949cecd26d7a852fe6a3f11c27855132f", func := "hostler/hostlerlaw09.GcmSeals", spec := "gcmSeals", unfollowed := true, recurses := true, apart := false, narrowed := true }
def GcmSealsUptoSaid : Prop := gcmSealsUptoRow.holds Try.pinned (OpenSpec.upto gcmSealsSpec)

/-- 'hostlerlaw09.GcmBack', WHERE WHAT IT READS IS OF BULK AT MOST 1048576: true; the input reads as it did. -/
def gcmBackUptoRow : OpenClaim := { program := "ytepkbllcaeceeaa", sum := "8e098a26b05c243f807705bf43f5f66949cecd26d7a852fe6a3f11c27855132f", func := "hostler/hostlerlaw09.GcmBack", spec := "gcmBack", unfollowed := true, recurses := true, apart := false, narrowed := true }
def GcmBackUptoSaid : Prop := gcmBackUptoRow.holds Try.pinned (OpenSpec.upto gcmBackSpec)

/-- 'hostlerlaw09.GcmJoins', WHERE WHAT IT READS IS OF BULK AT MOST 1048576: true; the input reads as it did. -/
def gcmJoinsUptoRow : OpenClaim := { program := "ytepkbllcaeceeaa", sum := "8e098a26b05c243f807705bf43f5f66949cecd26d7a852fe6a3f11c27855132f", func := "hostler/hostlerlaw09.GcmJoins", spec := "gcmJoins", unfollowed := true, recurses := true, apart := false, narrowed := true }
def GcmJoinsUptoSaid : Prop := gcmJoinsUptoRow.holds Try.pinned (OpenSpec.upto gcmJoinsSpec)

end Rows
end Go.Proofs.Ytepkbllcaeceeaa
