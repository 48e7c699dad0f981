/- The walk of ShaSums. Conditions: as each theorem states them. -/
import Derived.Test.YtepkbllcaeceeaaS12
import Derived.Test.YtepkbllcaeceeaaS7
namespace Go.Proofs.Ytepkbllcaeceeaa
open Go.RowKit

set_option maxRecDepth 100000 in
set_option maxHeartbeats 2000000 in
theorem sums_any (A : Option Addr) (c : Nat) (ts : List Tx) (w : World) (ht : Txs w.heap.size w A ts) (hb : BytT ts) (hl : ts.length ≤ 140737488351232) (hx : ∀ y ∈ ts, y.xs.length ≤ 140737488351232) :
    Calls Try.prog 3 #[.slice A ts.length c] w fun e w' => e = .returned (.bool true) ∧ Below w.heap.size w w' := by
  have HT := Lib.hid ht
  have HB := Lib.hid hb
  have HX := Lib.hid hx
  clear ht hb hx
  go_enter Try.func3, Try.ntmps3
  go_wp2_with fail
  refine Calls.mono (known06_any _) ?_
  rintro e w1 ⟨rfl, hb1⟩
  have B1 := Lib.hid hb1
  clear hb1
  have T1 := Lib.hid ((HT.out.below B1.out (Nat.le_refl _)).mono B1.out.size)
  by_cases h : 3000 < ts.length + (joinT ts).length
  · have HH := Lib.hid h
    clear h
    go_wp2_with fail
    refine Calls.mono (great_yes A c ts 3000 _ T1.out hl HX.out (by decide) HH.out) ?_
    rintro e w2 ⟨rfl, rfl⟩
    go_wp2_with fail
    go_ret
    exact ⟨rfl, B1.out⟩
  · have HH := Lib.hid h
    clear h
    go_wp2_with fail
    refine Calls.mono (great_no A c ts 3000 _ T1.out hl HX.out (by decide) HH.out) ?_
    rintro e w2 ⟨rfl, rfl⟩
    go_wp2_with fail
    refine Calls.mono (sum_any A c ts _ T1.out HB.out (by have := HH.out; omega) (by have := HH.out; omega)) ?_
    rintro e w3 ⟨rfl, hb3⟩
    have B3 := Lib.hid (B1.out.trans (hb3.mono B1.out.size))
    have T3 := Lib.hid ((HT.out.below B3.out (Nat.le_refl _)).mono B3.out.size)
    clear hb3
    go_wp2_with fail
    refine Calls.mono (join_any A c ts _ T3.out hl (by have := HH.out; omega)) ?_
    rintro e w4 ⟨A4, n4, c4, rfl, ho4, hb4⟩
    have B4 := Lib.hid (B3.out.trans (hb4.mono B3.out.size))
    have R4 := Lib.hid ho4.rd
    have HJ := Lib.hid (show (joinT ts).length ≤ 1000000000000 by have := HH.out; omega)
    have HJB := Lib.hid (byt_join HB.out)
    obtain rfl := ho4.len
    clear hb4 ho4
    go_wp2_with fail
    refine Calls.mono (rsum_any A4 c4 (joinT ts) _ R4.out HJB.out HJ.out) ?_
    rintro e w5 ⟨rfl, hb5⟩
    have B5 := Lib.hid (B4.out.trans (hb5.mono B4.out.size))
    clear hb5
    have hX : Hid ((shaL (joinT ts)).length = 32) := Lib.hid (shaL_len _)
    have HXB := Lib.hid (shaL_byt (joinT ts))
    generalize shaL (joinT ts) = X at *
    have HE : ∀ w : World, (binOp .eql 25 (.agg (cellsL .u8 X)) (.agg (cellsL .u8 X))).run Try.prog w = .ok (.bool true) w := fun w => by rw [eql_bytes Try.underlying25 Try.underlying5 elU8.size HXB.out HXB.out hX.out.symm hX.out.symm]; simp
    go_wp2_with fail
    go_ret
    exact ⟨rfl, B5.out⟩
end Go.Proofs.Ytepkbllcaeceeaa
