
/- The walk of KdfMacs. Conditions: as each theorem states them. -/
import Derived.Test.YthpacdondnenmaaK6
namespace Go.Proofs.Ythpacdondnenmaa
open Go.RowKit
theorem rmac_at {n m : Nat} (A : Option Addr) (c : Nat) (K : List Int) (A2 : Option Addr) (c2 : Nat) (T : List Int) (w : World) (hn : K.length = n) (hm : T.length = m) (hr : Rd w.heap.size .u8 w A K) (hb : Byt K) (hl : K.length ≤ 1000000000) (hr2 : Rd w.heap.size .u8 w A2 T) (hb2 : Byt T) (hl2 : T.length ≤ 1000000000) :
    Calls Try.prog 50 #[.slice A n c, .slice A2 m c2] w (ArrPost (macL K T) w) := by
  subst hn; subst hm; exact rmac_any A c K A2 c2 T w hr hb hl hr2 hb2 hl2
theorem eql_arr32 {X : List Int} (hX : X.length = 32) (hb : Byt X) (w : World) : (binOp .eql 22 (.agg (cellsL .u8 X)) (.agg (cellsL .u8 X))).run Try.prog w = .ok (.bool true) w := by
  rw [eql_bytes Try.underlying22 Try.underlying5 elU8.size hb hb hX.symm hX.symm]; simp

end Go.Proofs.Ythpacdondnenmaa
