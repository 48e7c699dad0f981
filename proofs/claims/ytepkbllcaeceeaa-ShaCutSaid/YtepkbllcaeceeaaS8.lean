/- The walk of ShaCut. Conditions: as each theorem states them. -/
import Derived.Test.YtepkbllcaeceeaaS7
import Derived.Test.YtepkbllcaeceeaaQM
import Derived.IntWalk
namespace Go.Proofs.Ytepkbllcaeceeaa
open Go.RowKit

theorem join_four (a b c : Option Addr) (p q r : Nat) (x y z : List Int) : joinT [⟨a, p, x⟩, Tx.none, ⟨b, q, y⟩, ⟨c, r, z⟩] = x ++ (y ++ z) := by unfold joinT; simp [Tx.none]
set_option maxRecDepth 100000 in
set_option maxHeartbeats 4000000 in
theorem cut_any (A : Option Addr) (c : Nat) (xs : List Int) (cut more : Int) (w : World) (hr : Rd w.heap.size .u8 w A xs) (hb : Byt xs) (hc : xs.length ≤ c) (hl : xs.length ≤ 140737488351232) (hc1 : -9223372036854775808 ≤ cut) (hc2 : cut ≤ 9223372036854775807) (hm1 : -9223372036854775808 ≤ more) (hm2 : more ≤ 9223372036854775807) :
    Calls Try.prog 4 #[.slice A xs.length c, .int .i64 cut, .int .i64 more] w fun e w' => e = .returned (.bool true) ∧ Below w.heap.size w w' := by
  have HR := Lib.hid hr
  have HBY := Lib.hid hb
  clear hr hb
  go_enter Try.func4, Try.ntmps4
  go_wp2_with fail
  refine Calls.mono (known06_any _) ?_
  rintro e w1 ⟨rfl, hb1⟩
  have B1 := Lib.hid hb1
  clear hb1
  by_cases h1 : xs.length > 3000
  · go_wp2_with fail
    go_ret
    exact ⟨rfl, B1.out⟩
  by_cases h2 : cut < 0
  · go_wp2_with fail
    go_ret
    exact ⟨rfl, B1.out⟩
  by_cases h3 : cut > xs.length
  · go_wp2_with fail
    go_ret
    exact ⟨rfl, B1.out⟩
  by_cases h4 : more < 0
  · go_wp2_with fail
    go_ret
    exact ⟨rfl, B1.out⟩
  by_cases h5 : more > xs.length - cut
  · go_wp2_with fail
    go_ret
    exact ⟨rfl, B1.out⟩
  have R1 := Lib.hid (HR.out.below B1.out (Nat.le_refl _))
  have q0 := conv_rd elU8 Try.underlying9 R1.out c
  go_wp2_with fail
  clear q0
  refine Calls.mono (sum_any _ _ [⟨A, c, xs⟩] _ ?_ ?_ ?_ ?_) ?_
  · refine Txs.newAt (by simp) rfl ?_
    intro t ht
    rw [List.mem_singleton] at ht
    subst ht
    exact ⟨R1.out.mono B1.out.size, hc⟩
  · intro t ht
    rw [List.mem_singleton] at ht
    subst ht
    exact HBY.out
  · rw [join_one]; omega
  · simp
  rintro e w2 ⟨rfl, hb2⟩
  rw [join_one]
  have B2 := Lib.hid ((B1.out.alloc B1.out.size _).trans (hb2.mono (by have := B1.out.size; simp; omega)))
  clear hb2
  have hX : Hid ((shaL xs).length = 32) := Lib.hid (shaL_len xs)
  have HXB := Lib.hid (shaL_byt xs)
  obtain ⟨X, HX⟩ : ∃ X, Hid (shaL xs = X) := ⟨_, Lib.hid rfl⟩
  rw [HX.out] at hX HXB ⊢
  go_wp2_with (with_reducible (show wpList _ _ _ (⟨none, .store 25 _ _, _, _, _, _⟩ :: _) _ _); refine wpList_storeArr (o := ⟨none, .store 25 _ _, _, _, _, _⟩) (g := w2.heap.size) (t := 25) (k := .u8) (xs := X) (n := 32) rfl _ _ rfl rfl rfl (Blk.new _ _ _) size32 hX.out.symm rfl ?_; intro w3 ha3 hg3)
  have A3 := Lib.hid ha3
  have B3 := Lib.hid ((B2.out.alloc B2.out.size _).trans (below_of_only hg3 B2.out.size (by have := B2.out.size; simp; omega)))
  clear ha3 hg3
  have HE : ∀ w : World, (binOp .eql 25 (.agg (cellsL .u8 X)) (.agg (cellsL .u8 X))).run Try.prog w = .ok (.bool true) w := fun w => by rw [eql_bytes Try.underlying25 Try.underlying5 elU8.size HXB.out HXB.out hX.out.symm hX.out.symm]; simp
  have HL : ∀ r : BW w3.heap.size w3, (Instr.loadAt 25 (.pointer (some ⟨w2.heap.size, 0, none⟩))).run Try.prog r.world = .ok (.agg (cellsL .u8 X)) r.world := fun r => arr_load (A3.out.below r.below A3.out.lt) Try.underlying25 size32 hX.out.symm
  have HC : ∀ r : BW w3.heap.size w3, (convert 28 9 (.slice A xs.length c)).run Try.prog r.world = .ok (.string (strOfNums xs)) r.world := fun r => conv_rd elU8 Try.underlying9 ((HR.out.below B3.out (Nat.le_refl _)).below r.below B3.out.size) c
  obtain ⟨m1, rfl⟩ : ∃ m1 : Nat, (m1 : Int) = cut := ⟨cut.toNat, by omega⟩
  obtain ⟨m2, rfl⟩ : ∃ m2 : Nat, (m2 : Int) = more := ⟨more.toNat, by omega⟩
  obtain ⟨A1, c1, p1, p2, p3, p4, p5⟩ := slice_h elU8 HR.out hc (m1 : Int) m1 (by omega) rfl
  obtain ⟨A2, c2, q1, q2, q3, q4, q5⟩ := slice_lh elU8 HR.out hc (m1 : Int) ((m1 : Int) + (m2 : Int)) m2 (by omega) (by omega) (by omega) (by omega)
  obtain ⟨A9, c9, r1, r2, r3, r4, r5⟩ := slice_l elU8 HR.out hc ((m1 : Int) + (m2 : Int)) (xs.length - (m1 + m2)) (by omega) (by omega) (by omega)
  have hj : xs.take m1 ++ ((xs.drop (m1 : Int).toNat).take m2 ++ xs.drop ((m1 : Int) + (m2 : Int)).toNat) = xs := by
    rw [Int.toNat_natCast, show ((m1 : Int) + (m2 : Int)).toNat = m1 + m2 by omega, ← List.drop_drop, List.take_append_drop, List.take_append_drop]
  have hy1 := HBY.out.take m1
  have hy2 := (HBY.out.drop (m1 : Int).toNat).take m2
  have hy9 := HBY.out.drop ((m1 : Int) + (m2 : Int)).toNat
  generalize xs.take m1 = Y1 at *
  generalize (xs.drop (m1 : Int).toNat).take m2 = Y2 at *
  generalize xs.drop ((m1 : Int) + (m2 : Int)).toNat = Y9 at *
  have HJ := Lib.hid hj
  have HP3 := Lib.hid (p3.below B3.out (Nat.le_refl _))
  have HQ3 := Lib.hid (q3.below B3.out (Nat.le_refl _))
  have HR3 := Lib.hid (r3.below B3.out (Nat.le_refl _))
  have HY1 := Lib.hid hy1
  have HY2 := Lib.hid hy2
  have HY9 := Lib.hid hy9
  have P4 := Lib.hid p4
  have Q4 := Lib.hid q4
  have R4 := Lib.hid r4
  clear p3 q3 r3 hj hy1 hy2 hy9 p4 q4 r4
  have hs : IntKind.i64.wrap ((m1 : Int) + (m2 : Int)) = (m1 : Int) + (m2 : Int) := IntWalk.i64_in _ (by omega)
  refine wp_region_mix_below w3.heap.size [([0, 1, 2, 3, 4, 5, 6, 7, 8, 9, 10, 11, 12, 13, 16], 14), ([], 15), ([17, 18, 19, 22], 20), ([], 21)] [23, 24, 25, 26, 27, 28, 29, 30, 31] (by kernel_rfl) (by kernel_rfl) (by kernel_rfl) (by kernel_rfl) ?_
  simp only [put_none, pickL, List.map_cons, List.map_nil, List.filterMap_cons, List.filterMap_nil, List.getElem?_cons_succ, List.getElem?_cons_zero]
  refine mixS_cons ?_
  repeat (show wpQuiet _ _ _ _ (_ :: _) _; go_big_quiet_step (fail))
  refine wpQuiet_loadV (o := ⟨some 57, _, _, _, _, _⟩) rfl _ rfl rfl (fun w' hw' => by obtain ⟨r, rfl⟩ := hw'; exact HL r) ?_
  simp only [Act.put, List.setIfInBounds_toArray, List.set_cons_zero, List.set_cons_succ]
  refine wpQuiet_nil ?_
  go_wp2_with fail
  refine MixQ.below ((((Below.refl _ _).drew).alloc (Nat.le_refl _) _)) ?_
  refine mixS_cons ?_
  repeat (show wpQuiet _ _ _ _ (_ :: _) _; go_big_quiet_step (fail))
  refine wpQuiet_nil ?_
  go_wp2_with fail
  refine Calls.mono (sum_any _ _ [⟨A1, c1, Y1⟩, Tx.none, ⟨A2, c2, Y2⟩, ⟨A9, c9, Y9⟩] _ ?_ ?_ ?_ ?_) ?_
  · refine Txs.newAt (by simp) (by simp only [List.map_cons, List.map_nil, txV, Tx.none, P4.out, Q4.out, R4.out, List.length_nil]) ?_
    intro t ht
    simp only [List.mem_cons, List.not_mem_nil, or_false] at ht
    rcases ht with rfl | rfl | rfl | rfl
    · exact ⟨HP3.out.drew.mono B3.out.size, by rw [P4.out]; exact p1⟩
    · exact ⟨Rd.nil, Nat.le_refl _⟩
    · exact ⟨HQ3.out.drew.mono B3.out.size, by rw [Q4.out]; exact q1⟩
    · exact ⟨HR3.out.drew.mono B3.out.size, by rw [R4.out]; exact r1⟩
  · intro t ht
    simp only [List.mem_cons, List.not_mem_nil, or_false] at ht
    rcases ht with rfl | rfl | rfl | rfl
    · exact HY1.out
    · exact Byt.nil
    · exact HY2.out
    · exact HY9.out
  · rw [join_four, HJ.out]; omega
  · simp
  rintro e w5 ⟨rfl, hb5⟩
  rw [join_four, HJ.out, HX.out]
  have B5 := Lib.hid (((Below.refl w3.heap.size w3).drew.alloc (Nat.le_refl _) _).trans (hb5.mono (by simp)))
  clear hb5
  go_wp2_with fail
  refine MixQ.below B5.out ?_
  refine mixS_cons ?_
  repeat (show wpQuiet _ _ _ _ (_ :: _) _; go_big_quiet_step (fail))
  refine wpQuiet_loadV (o := ⟨some 63, _, _, _, _, _⟩) rfl _ rfl rfl (fun w' hw' => by obtain ⟨r, rfl⟩ := hw'; exact HL r) ?_
  simp only [Act.put, List.setIfInBounds_toArray, List.set_cons_zero, List.set_cons_succ]
  refine wpQuiet_nil ?_
  go_wp2_with fail
  refine MixQ.below (B5.out.alloc B5.out.size _) ?_
  refine mixS_cons ?_
  refine wpQuiet_nil ?_
  go_wp2_with fail
  have R5 := Lib.hid ((HR.out.below B3.out (Nat.le_refl _)).below B5.out B3.out.size)
  have z5 : w.heap.size ≤ w5.heap.size := Nat.le_trans B3.out.size B5.out.size
  refine Calls.mono (sum_any _ _ [⟨A, c, xs⟩] _ ?_ ?_ ?_ ?_) ?_
  · refine Txs.newAt (by simp) rfl ?_
    intro t ht
    rw [List.mem_singleton] at ht
    subst ht
    exact ⟨R5.out.mono z5, hc⟩
  · intro t ht
    rw [List.mem_singleton] at ht
    subst ht
    exact HBY.out
  · rw [join_one]; omega
  · simp
  rintro e w6 ⟨rfl, hb6⟩
  rw [join_one, HX.out]
  have B6 := Lib.hid ((B5.out.alloc B5.out.size _).trans (hb6.mono (by have := B5.out.size; simp; omega)))
  clear hb6
  go_wp2_with fail
  refine MixQ.below B6.out ?_
  refine mixS_nil ?_
  repeat (show wpQuiet _ _ _ _ (_ :: _) _; go_big_quiet_step (fail))
  refine wpQuiet_nil ?_
  refine NoPanic.normal ?_
  go_wp2_with fail
  go_ret
  exact ⟨rfl, B3.out.trans (B6.out.mono B3.out.size)⟩
end Go.Proofs.Ytepkbllcaeceeaa
