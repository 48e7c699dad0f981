/- The walk of KdfExpands. Conditions: as each theorem states them. -/
import Derived.Test.YtepkbllcaeceeaaK10
import Derived.Test.YtepkbllcaeceeaaQN
namespace Go.Proofs.Ytepkbllcaeceeaa
open Go.RowKit

set_option maxRecDepth 100000 in
set_option maxHeartbeats 8000000 in
theorem expands_walk (S : List Int) (A : Option Addr) (c : Nat) (I : List Int) (s : ByteArray) (n : Int) (w : World) (hS : S.length = 32) (hSb : Byt S) (hr : Rd w.heap.size .u8 w A I) (hb : Byt I) (hcap : I.length ≤ c) (hil : I.length ≤ 140737488351232) (hsl : s.size ≤ 140737488351232) :
    Calls Try.prog 9 #[.agg (cellsL .u8 S), .slice A I.length c, .string s, .int .i64 n] w fun e w' => e = .returned (.bool true) ∧ Below w.heap.size w w' := by
  have HS := Lib.hid hS
  have HSB := Lib.hid hSb
  have HR := Lib.hid hr
  have HBY := Lib.hid hb
  clear hS hSb hr hb
  go_enter Try.func9, Try.ntmps9
  go_wp2_with fail
  refine Calls.mono (known07_any _) ?_
  rintro e w1 ⟨rfl, hb1⟩
  have SA1 : Hid (Arr w1 w.heap.size 25 .u8 S) := Lib.hid ((Arr.newAt (cs := cellsL .u8 S) rfl rfl).belowAll hb1)
  have B1 := Lib.hid (((Below.refl w.heap.size w).alloc (Nat.le_refl _) _).trans (hb1.mono (by simp)))
  clear hb1
  by_cases h1 : I.length > 1000
  · go_wp2_with fail
    go_ret
    exact ⟨rfl, B1.out⟩
  by_cases h2 : s.size > 1000
  · go_wp2_with fail
    go_ret
    exact ⟨rfl, B1.out⟩
  by_cases h3 : n > 600
  · by_cases h4 : n ≤ 8160
    · go_wp2_with fail
      go_ret
      exact ⟨rfl, B1.out⟩
    · go_wp2_with fail
      have R1 := Lib.hid ((HR.out.below B1.out (Nat.le_refl _)).mono B1.out.size)
      have HL1 : ∀ r : BW w1.heap.size w1, (Instr.loadAt 25 (.pointer (some ⟨w.heap.size, 0, none⟩))).run Try.prog r.world = .ok (.agg (cellsL .u8 S)) r.world := fun r => arr_load (SA1.out.below r.below SA1.out.lt) Try.underlying25 size32 HS.out.symm
      refine wp_region_mixN w1.heap.size [([0, 1, 2, 5, 6, 7], 3), ([4], 8), ([9, 10, 11, 12, 13, 14, 15, 18, 19, 20, 21], 16), ([17], 22)] [23, 24, 25, 26] (by kernel_rfl) (by kernel_rfl) (by kernel_rfl) (by kernel_rfl) ?_
      simp only [pickL, List.map_cons, List.map_nil, List.filterMap_cons, List.filterMap_nil, List.getElem?_cons_succ, List.getElem?_cons_zero]
      refine mixN_cons ?_
      show wpQuiet _ _ _ _ (_ :: _) _
      refine wpQuiet_loadV (o := ⟨some 27, _, _, _, _, _⟩) rfl _ rfl rfl (fun w' hw' => by obtain ⟨r, rfl⟩ := hw'; exact HL1 r) ?_
      simp only [Act.put, List.setIfInBounds_toArray, List.set_cons_zero, List.set_cons_succ]
      show wpQuiet _ _ _ _ (_ :: _) _
      go_big_quiet_step (fail)
      show wpQuiet _ _ _ _ (_ :: _) _
      go_big_quiet_step (fail)
      show wpQuiet _ _ _ _ (_ :: _) _
      refine wpQuiet_loadV (o := ⟨some 32, _, _, _, _, _⟩) rfl _ rfl rfl (fun w' hw' => by obtain ⟨r, rfl⟩ := hw'; exact HL1 r) ?_
      simp only [Act.put, List.setIfInBounds_toArray, List.set_cons_zero, List.set_cons_succ]
      repeat (show wpQuiet _ _ _ _ (_ :: _) _; go_big_quiet_step (fail))
      refine wpQuiet_nil ?_
      show wpList _ _ _ [_] _ _
      go_wp2_with fail
      refine Calls.mono (expand_any S A c I n _ rfl HS.out HSB.out R1.out.drew HBY.out hcap (by omega)) ?_
      rintro e w2 ⟨A3, n3, c3, rfl, hn3, hc3, hr3, hb3⟩
      have B12 := Lib.hid ((Below.refl w1.heap.size w1).drew.trans hb3)
      have R3 := Lib.hid hr3
      have N3 := Lib.hid hn3
      have R2 := Lib.hid ((R1.out.below B12.out (Nat.le_refl _)).mono B12.out.size)
      have SA2 := Lib.hid (SA1.out.belowAll B12.out)
      clear hb3 hr3 hn3 HL1 R1
      have HC3 : ∀ r : BW w2.heap.size w2, (convert 28 9 (.slice A3 n3 c3)).run Try.prog r.world = .ok (.string (strOfNums (expL S I n))) r.world := fun r => conv_n (R3.out.below r.below (Nat.le_refl _)) N3.out.symm _
      go_wp2_with fail
      refine MixN.narrow B12.out B12.out.size ?_
      refine mixN_cons ?_
      repeat (show wpQuiet _ _ _ _ (_ :: _) _; go_big_quiet_step (fail))
      refine wpQuiet_nil ?_
      show wpList _ _ _ [_] _ _
      go_wp2_with fail
      refine Calls.mono (rexpand_any S A c I n _ rfl HS.out HSB.out R2.out HBY.out (by omega)) ?_
      rintro e w3 ⟨A4, n4, c4, rfl, hn4, hc4, hr4, hb4⟩
      have B23 := Lib.hid hb4
      have R4 := Lib.hid hr4
      have N4 := Lib.hid hn4
      have R5 := Lib.hid ((R2.out.below B23.out (Nat.le_refl _)).mono B23.out.size)
      have SA3 := Lib.hid (SA2.out.belowAll B23.out)
      clear hb4 hr4 hn4 HC3 R3 N3 R2
      have HC4 : ∀ r : BW w3.heap.size w3, (convert 28 9 (.slice A4 n4 c4)).run Try.prog r.world = .ok (.string (strOfNums (expL S I n))) r.world := fun r => conv_n (R4.out.below r.below (Nat.le_refl _)) N4.out.symm _
      have HL3 : ∀ r : BW w3.heap.size w3, (Instr.loadAt 25 (.pointer (some ⟨w.heap.size, 0, none⟩))).run Try.prog r.world = .ok (.agg (cellsL .u8 S)) r.world := fun r => arr_load (SA3.out.below r.below SA3.out.lt) Try.underlying25 size32 HS.out.symm
      go_wp2_with fail
      refine MixN.narrow B23.out B23.out.size ?_
      refine mixN_cons ?_
      repeat (show wpQuiet _ _ _ _ (_ :: _) _; go_big_quiet_step (fail))
      show wpQuiet _ _ _ _ (_ :: _) _
      refine wpQuiet_loadV (o := ⟨some 39, _, _, _, _, _⟩) rfl _ rfl rfl (fun w' hw' => by obtain ⟨r, rfl⟩ := hw'; exact HL3 r) ?_
      simp only [Act.put, List.setIfInBounds_toArray, List.set_cons_zero, List.set_cons_succ]
      repeat (show wpQuiet _ _ _ _ (_ :: _) _; go_big_quiet_step (fail))
      show wpQuiet _ _ _ _ (_ :: _) _
      refine wpQuiet_loadV (o := ⟨some 45, _, _, _, _, _⟩) rfl _ rfl rfl (fun w' hw' => by obtain ⟨r, rfl⟩ := hw'; exact HL3 r) ?_
      simp only [Act.put, List.setIfInBounds_toArray, List.set_cons_zero, List.set_cons_succ]
      repeat (show wpQuiet _ _ _ _ (_ :: _) _; go_big_quiet_step (fail))
      refine wpQuiet_nil ?_
      show wpList _ _ _ [_] _ _
      go_wp2_with fail
      refine Calls.mono (label_any S s A c I n _ HS.out HSB.out R5.out HBY.out (by omega) hsl) ?_
      rintro e w4 ⟨A5, n5, c5, rfl, hn5, hc5, hr5, hb5⟩
      have B34 := Lib.hid hb5
      have R6 := Lib.hid hr5
      have N6 := Lib.hid hn5
      have R7 := Lib.hid ((R5.out.below B34.out (Nat.le_refl _)).mono B34.out.size)
      clear hb5 hr5 hn5 HC4 HL3 R4 N4 R5
      have HC5 : ∀ r : BW w4.heap.size w4, (convert 28 9 (.slice A5 n5 c5)).run Try.prog r.world = .ok (.string (strOfNums (labelL S s I n))) r.world := fun r => conv_n (R6.out.below r.below (Nat.le_refl _)) N6.out.symm _
      go_wp2_with fail
      refine MixN.narrow B34.out B34.out.size ?_
      refine mixN_cons ?_
      repeat (show wpQuiet _ _ _ _ (_ :: _) _; go_big_quiet_step (fail))
      refine wpQuiet_nil ?_
      show wpList _ _ _ [_] _ _
      go_wp2_with fail
      refine Calls.mono (rlabel_any S s A c I n _ HS.out HSB.out R7.out HBY.out (by omega) hsl) ?_
      rintro e w5 ⟨A6, n6, c6, rfl, hn6, hc6, hr6, hb6⟩
      have B45 := Lib.hid hb6
      have R8 := Lib.hid hr6
      have N8 := Lib.hid hn6
      clear hb6 hr6 hn6 HC5 R6 N6 R7
      have HC6 : ∀ r : BW w5.heap.size w5, (convert 28 9 (.slice A6 n6 c6)).run Try.prog r.world = .ok (.string (strOfNums (labelL S s I n))) r.world := fun r => conv_n (R8.out.below r.below (Nat.le_refl _)) N8.out.symm _
      go_wp2_with fail
      refine MixN.narrow B45.out B45.out.size ?_
      refine mixN_nil ?_
      repeat (show wpQuiet _ _ _ _ (_ :: _) _; go_big_quiet_step (fail))
      refine wpQuiet_nil ?_
      refine NoPanic.normal ?_
      have BE := Lib.hid ((((B1.out.trans (B12.out.mono B1.out.size)).trans (B23.out.mono (Nat.le_trans B1.out.size B12.out.size))).trans (B34.out.mono (Nat.le_trans (Nat.le_trans B1.out.size B12.out.size) B23.out.size))).trans (B45.out.mono (Nat.le_trans (Nat.le_trans (Nat.le_trans B1.out.size B12.out.size) B23.out.size) B34.out.size)))
      go_wp2_with fail
      go_ret
      exact ⟨rfl, BE.out⟩
  · go_wp2_with fail
    have R1 := Lib.hid ((HR.out.below B1.out (Nat.le_refl _)).mono B1.out.size)
    have HL1 : ∀ r : BW w1.heap.size w1, (Instr.loadAt 25 (.pointer (some ⟨w.heap.size, 0, none⟩))).run Try.prog r.world = .ok (.agg (cellsL .u8 S)) r.world := fun r => arr_load (SA1.out.below r.below SA1.out.lt) Try.underlying25 size32 HS.out.symm
    refine wp_region_mixN w1.heap.size [([0, 1, 2, 5, 6, 7], 3), ([4], 8), ([9, 10, 11, 12, 13, 14, 15, 18, 19, 20, 21], 16), ([17], 22)] [23, 24, 25, 26] (by kernel_rfl) (by kernel_rfl) (by kernel_rfl) (by kernel_rfl) ?_
    simp only [pickL, List.map_cons, List.map_nil, List.filterMap_cons, List.filterMap_nil, List.getElem?_cons_succ, List.getElem?_cons_zero]
    refine mixN_cons ?_
    show wpQuiet _ _ _ _ (_ :: _) _
    refine wpQuiet_loadV (o := ⟨some 27, _, _, _, _, _⟩) rfl _ rfl rfl (fun w' hw' => by obtain ⟨r, rfl⟩ := hw'; exact HL1 r) ?_
    simp only [Act.put, List.setIfInBounds_toArray, List.set_cons_zero, List.set_cons_succ]
    show wpQuiet _ _ _ _ (_ :: _) _
    go_big_quiet_step (fail)
    show wpQuiet _ _ _ _ (_ :: _) _
    go_big_quiet_step (fail)
    show wpQuiet _ _ _ _ (_ :: _) _
    refine wpQuiet_loadV (o := ⟨some 32, _, _, _, _, _⟩) rfl _ rfl rfl (fun w' hw' => by obtain ⟨r, rfl⟩ := hw'; exact HL1 r) ?_
    simp only [Act.put, List.setIfInBounds_toArray, List.set_cons_zero, List.set_cons_succ]
    repeat (show wpQuiet _ _ _ _ (_ :: _) _; go_big_quiet_step (fail))
    refine wpQuiet_nil ?_
    show wpList _ _ _ [_] _ _
    go_wp2_with fail
    refine Calls.mono (expand_any S A c I n _ rfl HS.out HSB.out R1.out.drew HBY.out hcap (by omega)) ?_
    rintro e w2 ⟨A3, n3, c3, rfl, hn3, hc3, hr3, hb3⟩
    have B12 := Lib.hid ((Below.refl w1.heap.size w1).drew.trans hb3)
    have R3 := Lib.hid hr3
    have N3 := Lib.hid hn3
    have R2 := Lib.hid ((R1.out.below B12.out (Nat.le_refl _)).mono B12.out.size)
    have SA2 := Lib.hid (SA1.out.belowAll B12.out)
    clear hb3 hr3 hn3 HL1 R1
    have HC3 : ∀ r : BW w2.heap.size w2, (convert 28 9 (.slice A3 n3 c3)).run Try.prog r.world = .ok (.string (strOfNums (expL S I n))) r.world := fun r => conv_n (R3.out.below r.below (Nat.le_refl _)) N3.out.symm _
    go_wp2_with fail
    refine MixN.narrow B12.out B12.out.size ?_
    refine mixN_cons ?_
    repeat (show wpQuiet _ _ _ _ (_ :: _) _; go_big_quiet_step (fail))
    refine wpQuiet_nil ?_
    show wpList _ _ _ [_] _ _
    go_wp2_with fail
    refine Calls.mono (rexpand_any S A c I n _ rfl HS.out HSB.out R2.out HBY.out (by omega)) ?_
    rintro e w3 ⟨A4, n4, c4, rfl, hn4, hc4, hr4, hb4⟩
    have B23 := Lib.hid hb4
    have R4 := Lib.hid hr4
    have N4 := Lib.hid hn4
    have R5 := Lib.hid ((R2.out.below B23.out (Nat.le_refl _)).mono B23.out.size)
    have SA3 := Lib.hid (SA2.out.belowAll B23.out)
    clear hb4 hr4 hn4 HC3 R3 N3 R2
    have HC4 : ∀ r : BW w3.heap.size w3, (convert 28 9 (.slice A4 n4 c4)).run Try.prog r.world = .ok (.string (strOfNums (expL S I n))) r.world := fun r => conv_n (R4.out.below r.below (Nat.le_refl _)) N4.out.symm _
    have HL3 : ∀ r : BW w3.heap.size w3, (Instr.loadAt 25 (.pointer (some ⟨w.heap.size, 0, none⟩))).run Try.prog r.world = .ok (.agg (cellsL .u8 S)) r.world := fun r => arr_load (SA3.out.below r.below SA3.out.lt) Try.underlying25 size32 HS.out.symm
    go_wp2_with fail
    refine MixN.narrow B23.out B23.out.size ?_
    refine mixN_cons ?_
    repeat (show wpQuiet _ _ _ _ (_ :: _) _; go_big_quiet_step (fail))
    show wpQuiet _ _ _ _ (_ :: _) _
    refine wpQuiet_loadV (o := ⟨some 39, _, _, _, _, _⟩) rfl _ rfl rfl (fun w' hw' => by obtain ⟨r, rfl⟩ := hw'; exact HL3 r) ?_
    simp only [Act.put, List.setIfInBounds_toArray, List.set_cons_zero, List.set_cons_succ]
    repeat (show wpQuiet _ _ _ _ (_ :: _) _; go_big_quiet_step (fail))
    show wpQuiet _ _ _ _ (_ :: _) _
    refine wpQuiet_loadV (o := ⟨some 45, _, _, _, _, _⟩) rfl _ rfl rfl (fun w' hw' => by obtain ⟨r, rfl⟩ := hw'; exact HL3 r) ?_
    simp only [Act.put, List.setIfInBounds_toArray, List.set_cons_zero, List.set_cons_succ]
    repeat (show wpQuiet _ _ _ _ (_ :: _) _; go_big_quiet_step (fail))
    refine wpQuiet_nil ?_
    show wpList _ _ _ [_] _ _
    go_wp2_with fail
    refine Calls.mono (label_any S s A c I n _ HS.out HSB.out R5.out HBY.out (by omega) hsl) ?_
    rintro e w4 ⟨A5, n5, c5, rfl, hn5, hc5, hr5, hb5⟩
    have B34 := Lib.hid hb5
    have R6 := Lib.hid hr5
    have N6 := Lib.hid hn5
    have R7 := Lib.hid ((R5.out.below B34.out (Nat.le_refl _)).mono B34.out.size)
    clear hb5 hr5 hn5 HC4 HL3 R4 N4 R5
    have HC5 : ∀ r : BW w4.heap.size w4, (convert 28 9 (.slice A5 n5 c5)).run Try.prog r.world = .ok (.string (strOfNums (labelL S s I n))) r.world := fun r => conv_n (R6.out.below r.below (Nat.le_refl _)) N6.out.symm _
    go_wp2_with fail
    refine MixN.narrow B34.out B34.out.size ?_
    refine mixN_cons ?_
    repeat (show wpQuiet _ _ _ _ (_ :: _) _; go_big_quiet_step (fail))
    refine wpQuiet_nil ?_
    show wpList _ _ _ [_] _ _
    go_wp2_with fail
    refine Calls.mono (rlabel_any S s A c I n _ HS.out HSB.out R7.out HBY.out (by omega) hsl) ?_
    rintro e w5 ⟨A6, n6, c6, rfl, hn6, hc6, hr6, hb6⟩
    have B45 := Lib.hid hb6
    have R8 := Lib.hid hr6
    have N8 := Lib.hid hn6
    clear hb6 hr6 hn6 HC5 R6 N6 R7
    have HC6 : ∀ r : BW w5.heap.size w5, (convert 28 9 (.slice A6 n6 c6)).run Try.prog r.world = .ok (.string (strOfNums (labelL S s I n))) r.world := fun r => conv_n (R8.out.below r.below (Nat.le_refl _)) N8.out.symm _
    go_wp2_with fail
    refine MixN.narrow B45.out B45.out.size ?_
    refine mixN_nil ?_
    repeat (show wpQuiet _ _ _ _ (_ :: _) _; go_big_quiet_step (fail))
    refine wpQuiet_nil ?_
    refine NoPanic.normal ?_
    have BE := Lib.hid ((((B1.out.trans (B12.out.mono B1.out.size)).trans (B23.out.mono (Nat.le_trans B1.out.size B12.out.size))).trans (B34.out.mono (Nat.le_trans (Nat.le_trans B1.out.size B12.out.size) B23.out.size))).trans (B45.out.mono (Nat.le_trans (Nat.le_trans (Nat.le_trans B1.out.size B12.out.size) B23.out.size) B34.out.size)))
    go_wp2_with fail
    go_ret
    exact ⟨rfl, BE.out⟩
end Go.Proofs.Ytepkbllcaeceeaa
