/- Contract of layer 9's law: known. Conditions: as each theorem states them. -/
import Derived.Test.YtepkbllcaeceeaaG12
import Derived.Test.YtepkbllcaeceeaaG13
namespace Go.Proofs.Ytepkbllcaeceeaa
open Go.RowKit
theorem z12_ok : z12.length = 12 ∧ Byt z12 := ⟨by decide, fun x hx => by have := (List.mem_replicate.1 hx).2; omega⟩
theorem k9o_eq : gopenL z16 z12 [] k9b = some z16 := by rw [← k9b_eq]; exact gback z16_ok z12_ok.1 z12_ok.2 z16_ok.2
theorem k9a_str : strOfNums k9a = ⟨#[88, 226, 252, 206, 250, 126, 48, 97, 54, 127, 29, 87, 164, 231, 69, 90]⟩ := by kernel_rfl
theorem k9b_str : strOfNums k9b = ⟨#[3, 136, 218, 206, 96, 182, 163, 146, 243, 40, 194, 185, 113, 178, 254, 120, 171, 110, 71, 212, 44, 236, 19, 189, 245, 58, 103, 178, 18, 87, 189, 223]⟩ := by kernel_rfl
theorem k9b_byt : Byt k9b := by rw [← k9b_eq]; exact gsealL_byt _ _ _ _
theorem make16G (w : World) : (Instr.makeSlice 28 (.int .i64 16) (.int .i64 16)).run Try.prog w = .ok (.slice (some ⟨w.heap.size, 0, none⟩) 16 16) (w.alloc (.cells (z16.map (Value.int .u8)).toArray 5)) := make_any elB8 16 (by omega) w
theorem k9t_none : gopenL z16 z12 [] (k9b.take 15) = none := by unfold gopenL; rw [if_pos (by decide)]
attribute [local irreducible] gsealL gopenL
theorem open15 (A8 : Option Addr) (c8 : Nat) (w : World) : Calls Try.prog 39 #[.agg (cellsL .u8 z16), .agg (cellsL .u8 z12), .slice none 0 0, .slice A8 15 c8] w fun e w' => e = .returned (.tuple #[.slice none 0 0, .bool false]) ∧ Below w.heap.size w w' := by
  have h := gopen_short 0 0 15 c8 none A8 z16 z12 [] (k9b.take 15) w rfl (by decide)
  rw [k9t_none] at h
  exact h
set_option maxRecDepth 100000 in
set_option maxHeartbeats 800000 in
theorem known09_any (w : World) : Calls Try.prog 34 #[] w fun e w' => e = .returned (.bool true) ∧ Below w.heap.size w w' := by
  have K0 : Hid (Arr ((w.alloc (.cells (cellsL .u8 (nul 16)) 32)).alloc (.cells (cellsL .u8 (nul 12)) 51)) w.heap.size 32 .u8 z16) := Lib.hid ((Arr.newAt rfl rfl).alloc _)
  have N0 : Hid (Arr ((w.alloc (.cells (cellsL .u8 (nul 16)) 32)).alloc (.cells (cellsL .u8 (nul 12)) 51)) (w.heap.size + 1) 51 .u8 z12) := Lib.hid (Arr.newAt (by simp) rfl)
  have B0 : Hid (Below w.heap.size w ((w.alloc (.cells (cellsL .u8 (nul 16)) 32)).alloc (.cells (cellsL .u8 (nul 12)) 51))) := Lib.hid (((Below.refl _ _).alloc (Nat.le_refl _) _).alloc (by simp) _)
  have HL1 : Hid (∀ v : World, Arr v w.heap.size 32 .u8 z16 → (Instr.loadAt 32 (.pointer (some ⟨w.heap.size, 0, none⟩))).run Try.prog v = .ok (.agg (cellsL .u8 z16)) v) := Lib.hid (fun v h => arr_load h Try.underlying32 sizeE16 rfl)
  have HL2 : Hid (∀ v : World, Arr v (w.heap.size + 1) 51 .u8 z12 → (Instr.loadAt 51 (.pointer (some ⟨w.heap.size + 1, 0, none⟩))).run Try.prog v = .ok (.agg (cellsL .u8 z12)) v) := Lib.hid (fun v h => arr_load h Try.underlying51 size51 rfl)
  have HA := Lib.hid k9a_eq
  have HBq := Lib.hid k9b_eq
  have HCq := Lib.hid k9c_eq
  have HOq := Lib.hid k9o_eq
  have HSA := Lib.hid k9a_str
  have HSB := Lib.hid k9b_str
  have HBB := Lib.hid k9b_byt
  have HZB : Hid (k9b.length = 32) := Lib.hid rfl
  have HZA : Hid (k9a.length = 16) := Lib.hid rfl
  have hmk := make16G
  go_enter Try.func34, Try.ntmps34
  go_wp2_with (first
    | ((with_reducible (show wpList _ _ _ (⟨some 11, .load _ _, _, _, _, _⟩ :: _) _ _)); refine wpList_loadV (o := ⟨some 11, .load _ _, _, _, _, _⟩) rfl _ rfl rfl (HL1.out _ K0.out) ?_)
    | ((with_reducible (show wpList _ _ _ (⟨some 12, .load _ _, _, _, _, _⟩ :: _) _ _)); refine wpList_loadV (o := ⟨some 12, .load _ _, _, _, _, _⟩) rfl _ rfl rfl (HL2.out _ N0.out) ?_))
  refine Calls.mono (gseal_any 0 0 0 0 none none z16 z12 [] [] _ z16_ok z12_ok.1 z12_ok.2 rfl rfl (fun x hx => by cases hx) (by decide) (by decide) Rd.nil Rd.nil) ?_
  rintro e w3 ⟨A3, n3, c3, rfl, ho3, hb3⟩
  rw [HA.out] at ho3
  obtain rfl : n3 = 16 := by rw [ho3.len, HZA.out]
  have RA := Lib.hid ho3.rd
  have K3 := Lib.hid (K0.out.belowAll hb3)
  have N3 := Lib.hid (N0.out.belowAll hb3)
  have B3 := Lib.hid (B0.out.trans (hb3.mono B0.out.size))
  have hk3 := K3.out.lt
  have hn3 := N3.out.lt
  clear ho3 hb3 K0 N0 B0
  go_wp2_with fail
  refine wp_region_mixN w3.heap.size [([0, 1], 2), ([], 3)] [4] (by kernel_rfl) (by kernel_rfl) (by kernel_rfl) (by kernel_rfl) ?_
  try (rw [put_none])
  simp only [pickL, List.map_cons, List.map_nil, List.filterMap_cons, List.filterMap_nil, List.getElem?_cons_succ, List.getElem?_cons_zero]
  refine mixN_cons ?_
  show wpQuiet _ _ _ _ (_ :: _) _
  refine wpQuiet_loadV (o := ⟨some 14, _, _, _, _, _⟩) rfl _ rfl rfl (fun w' hw' => by obtain ⟨r, rfl⟩ := hw'; exact HL1.out _ (K3.out.below r.below hk3)) ?_
  simp only [Act.put, List.setIfInBounds_toArray, List.set_cons_zero, List.set_cons_succ]
  show wpQuiet _ _ _ _ (_ :: _) _
  refine wpQuiet_loadV (o := ⟨some 15, _, _, _, _, _⟩) rfl _ rfl rfl (fun w' hw' => by obtain ⟨r, rfl⟩ := hw'; exact HL2.out _ (N3.out.below r.below hn3)) ?_
  simp only [Act.put, List.setIfInBounds_toArray, List.set_cons_zero, List.set_cons_succ]
  refine wpQuiet_nil ?_
  show wpList _ _ _ [_] _ _
  go_wp2_with fail
  have D4 : Hid (Below w3.heap.size w3 (w3.alloc (.cells (z16.map (Value.int .u8)).toArray 5)).drew) := Lib.hid (((Below.refl _ _).alloc (Nat.le_refl _) _).drew)
  have R4 : Hid (Rd (w3.alloc (.cells (z16.map (Value.int .u8)).toArray 5)).drew.heap.size .u8 (w3.alloc (.cells (z16.map (Value.int .u8)).toArray 5)).drew (some ⟨w3.heap.size, 0, none⟩) z16) := Lib.hid (Rd.mono (Rd.drew (Rd.newAt (xs := z16) rfl rfl)) (by simp))
  obtain ⟨w4, hw4⟩ : ∃ w4, (w3.alloc (.cells (z16.map (Value.int .u8)).toArray 5)).drew = w4 := ⟨_, rfl⟩
  rw [hw4] at D4 R4 ⊢
  clear hw4
  refine MixN.narrow D4.out D4.out.size ?_
  refine mixN_cons ?_
  refine wpQuiet_nil ?_
  show wpList _ _ _ [_] _ _
  go_wp2_with fail
  refine Calls.mono (gseal_any 0 0 16 16 none (some ⟨w3.heap.size, 0, none⟩) z16 z12 [] z16 _ z16_ok z12_ok.1 z12_ok.2 rfl rfl (fun x hx => by cases hx) (by decide) (by decide) Rd.nil R4.out) ?_
  rintro e w5 ⟨A5, n5, c5, rfl, ho5, hb5⟩
  rw [HBq.out] at ho5
  obtain rfl : n5 = 32 := by rw [ho5.len, HZB.out]
  have RB := Lib.hid ho5.rd
  have hcb := ho5.cap.1
  have B5 := Lib.hid (D4.out.trans (hb5.mono D4.out.size))
  have HB5 := Lib.hid hb5
  clear ho5 hb5
  go_wp2_with fail
  refine MixN.narrow HB5.out HB5.out.size ?_
  refine mixN_nil ?_
  repeat (show wpQuiet _ _ _ _ (_ :: _) _; go_big_quiet_step (fail))
  refine wpQuiet_nil ?_
  refine NoPanic.normal ?_
  have K5 := Lib.hid (K3.out.below B5.out hk3)
  have N5 := Lib.hid (N3.out.below B5.out hn3)
  have RA5 := Lib.hid ((RA.out.below B5.out (Nat.le_refl _)).mono B5.out.size)
  have W5 := Lib.hid (B3.out.trans (B5.out.mono B3.out.size))
  have hk5 := K5.out.lt
  have hn5 := N5.out.lt
  clear D4 R4 B5 HB5 K3 N3 RA B3 hk3 hn3
  go_wp2_with (first
    | ((with_reducible (show wpList _ _ _ (⟨some 22, .load _ _, _, _, _, _⟩ :: _) _ _)); refine wpList_loadV (o := ⟨some 22, .load _ _, _, _, _, _⟩) rfl _ rfl rfl (HL1.out _ K5.out) ?_)
    | ((with_reducible (show wpList _ _ _ (⟨some 23, .load _ _, _, _, _, _⟩ :: _) _ _)); refine wpList_loadV (o := ⟨some 23, .load _ _, _, _, _, _⟩) rfl _ rfl rfl (HL2.out _ N5.out) ?_))
  refine Calls.mono (gopen_long 0 0 16 c5 none A5 z16 z12 [] k9b _ z16_ok z12_ok.1 z12_ok.2 rfl HZB.out hcb (fun x hx => by cases hx) HBB.out (by decide) (by decide) Rd.nil RB.out) ?_
  rw [HOq.out]
  rintro e w6 ⟨A6, n6, c6, rfl, ho6, hb6⟩
  obtain rfl : n6 = 16 := ho6.len
  have RC := Lib.hid ho6.rd
  have K6 := Lib.hid (K5.out.belowAll hb6)
  have N6 := Lib.hid (N5.out.belowAll hb6)
  have RA6 := Lib.hid ((RA5.out.below hb6 (Nat.le_refl _)).mono hb6.size)
  have RB6 := Lib.hid ((RB.out.below hb6 (Nat.le_refl _)).mono hb6.size)
  have W6 := Lib.hid (W5.out.trans (hb6.mono W5.out.size))
  have hk6 := K6.out.lt
  have hn6 := N6.out.lt
  clear ho6 hb6 K5 N5 RA5 RB W5 hk5 hn5
  obtain ⟨A7, c7, s1, s2, s3, s4, s5⟩ := slice_lN elB8 RB6.out HZB.out hcb 1 31 (by omega) (by omega) (by omega)
  have S3 : Hid (Rd w6.heap.size .u8 w6 A7 k9b.tail) := Lib.hid (by have h := s3; rwa [show k9b.drop (Int.toNat 1) = k9b.tail from rfl] at h)
  clear s3 s4 s2
  go_wp2_with fail
  refine wp_region_mix_below w6.heap.size [([0, 1, 2, 3], 4)] [5, 6, 7, 8, 9] (by kernel_rfl) (by kernel_rfl) (by kernel_rfl) (by kernel_rfl) ?_
  simp only [pickL, List.map_cons, List.map_nil, List.filterMap_cons, List.filterMap_nil, List.getElem?_cons_succ, List.getElem?_cons_zero]
  refine mixS_cons ?_
  show wpQuiet _ _ _ _ (_ :: _) _
  refine wpQuiet_loadV (o := ⟨some 29, _, _, _, _, _⟩) rfl _ rfl rfl (fun w' hw' => by obtain ⟨r, rfl⟩ := hw'; exact HL1.out _ (K6.out.below r.below hk6)) ?_
  simp only [Act.put, List.setIfInBounds_toArray, List.set_cons_zero, List.set_cons_succ]
  show wpQuiet _ _ _ _ (_ :: _) _
  refine wpQuiet_loadV (o := ⟨some 30, _, _, _, _, _⟩) rfl _ rfl rfl (fun w' hw' => by obtain ⟨r, rfl⟩ := hw'; exact HL2.out _ (N6.out.below r.below hn6)) ?_
  simp only [Act.put, List.setIfInBounds_toArray, List.set_cons_zero, List.set_cons_succ]
  repeat (show wpQuiet _ _ _ _ (_ :: _) _; go_big_quiet_step (fail))
  refine wpQuiet_nil ?_
  show wpList _ _ _ [_] _ _
  go_wp2_with fail
  refine Calls.mono (gopen_long 0 0 15 c7 none A7 z16 z12 [] k9b.tail _ z16_ok z12_ok.1 z12_ok.2 rfl rfl s1 (fun x hx => by cases hx) (fun x hx => HBB.out x (List.mem_of_mem_tail hx)) (by decide) (by decide) Rd.nil (Rd.drew S3.out)) ?_
  rw [HCq.out]
  rintro e w7 ⟨rfl, hb7⟩
  have Y7 := Lib.hid ((Below.refl w6.heap.size w6).drew.trans hb7)
  clear hb7
  go_wp2_with fail
  refine MixQ.below Y7.out ?_
  refine mixS_nil ?_
  repeat (show wpQuiet _ _ _ _ (_ :: _) _; go_big_quiet_step (fail))
  refine wpQuiet_nil ?_
  refine NoPanic.normal ?_
  have K7 := Lib.hid (K6.out.below Y7.out hk6)
  have N7 := Lib.hid (N6.out.below Y7.out hn6)
  have RA7 := Lib.hid ((RA6.out.below Y7.out (Nat.le_refl _)).mono Y7.out.size)
  have RB7 := Lib.hid ((RB6.out.below Y7.out (Nat.le_refl _)).mono Y7.out.size)
  have RC7 := Lib.hid ((RC.out.below Y7.out (Nat.le_refl _)).mono Y7.out.size)
  have W7 := Lib.hid (W6.out.trans (Y7.out.mono W6.out.size))
  have hk7 := K7.out.lt
  have hn7 := N7.out.lt
  clear K6 N6 RA6 RB6 RC W6 S3 Y7 hk6 hn6 s5
  go_wp2_with fail
  refine wp_region_mix_below w7.heap.size [([0, 1, 2, 3], 4)] [5, 6, 7, 8, 9] (by kernel_rfl) (by kernel_rfl) (by kernel_rfl) (by kernel_rfl) ?_
  simp only [pickL, List.map_cons, List.map_nil, List.filterMap_cons, List.filterMap_nil, List.getElem?_cons_succ, List.getElem?_cons_zero]
  refine mixS_cons ?_
  show wpQuiet _ _ _ _ (_ :: _) _
  refine wpQuiet_loadV (o := ⟨some 37, _, _, _, _, _⟩) rfl _ rfl rfl (fun w' hw' => by obtain ⟨r, rfl⟩ := hw'; exact HL1.out _ (K7.out.below r.below hk7)) ?_
  simp only [Act.put, List.setIfInBounds_toArray, List.set_cons_zero, List.set_cons_succ]
  show wpQuiet _ _ _ _ (_ :: _) _
  refine wpQuiet_loadV (o := ⟨some 38, _, _, _, _, _⟩) rfl _ rfl rfl (fun w' hw' => by obtain ⟨r, rfl⟩ := hw'; exact HL2.out _ (N7.out.below r.below hn7)) ?_
  simp only [Act.put, List.setIfInBounds_toArray, List.set_cons_zero, List.set_cons_succ]
  repeat (show wpQuiet _ _ _ _ (_ :: _) _; go_big_quiet_step (fail))
  refine wpQuiet_nil ?_
  show wpList _ _ _ [_] _ _
  go_wp2_with fail
  refine Calls.mono (open15 A5 c5 _) ?_
  rintro e w8 ⟨rfl, hb8⟩
  have Y8 := Lib.hid ((Below.refl w7.heap.size w7).drew.trans hb8)
  clear hb8
  go_wp2_with fail
  refine MixQ.below Y8.out ?_
  refine mixS_nil ?_
  repeat (show wpQuiet _ _ _ _ (_ :: _) _; go_big_quiet_step (fail))
  refine wpQuiet_nil ?_
  refine NoPanic.normal ?_
  have RA8 := Lib.hid ((RA7.out.below Y8.out (Nat.le_refl _)).mono Y8.out.size)
  have RB8 := Lib.hid ((RB7.out.below Y8.out (Nat.le_refl _)).mono Y8.out.size)
  have RC8 := Lib.hid ((RC7.out.below Y8.out (Nat.le_refl _)).mono Y8.out.size)
  have W8 := Lib.hid (W7.out.trans (Y8.out.mono W7.out.size))
  clear K7 N7 RA7 RB7 RC7 W7 Y8 hk7 hn7
  have v1 : ∀ r : BW w8.heap.size w8, (convert 28 9 (.slice A3 16 c3)).run Try.prog r.world = .ok (.string ⟨#[88, 226, 252, 206, 250, 126, 48, 97, 54, 127, 29, 87, 164, 231, 69, 90]⟩) r.world := fun r => by rw [← HSA.out]; exact conv_nE (RA8.out.below r.below (Nat.le_refl _)) HZA.out _
  have v2 : ∀ r : BW w8.heap.size w8, (convert 28 9 (.slice A5 32 c5)).run Try.prog r.world = .ok (.string ⟨#[3, 136, 218, 206, 96, 182, 163, 146, 243, 40, 194, 185, 113, 178, 254, 120, 171, 110, 71, 212, 44, 236, 19, 189, 245, 58, 103, 178, 18, 87, 189, 223]⟩) r.world := fun r => by rw [← HSB.out]; exact conv_nE (RB8.out.below r.below (Nat.le_refl _)) HZB.out _
  have v3 : ∀ r : BW w8.heap.size w8, (convert 28 9 (.slice A6 16 c6)).run Try.prog r.world = .ok (.string (strOfNums z16)) r.world := fun r => conv_nE (RC8.out.below r.below (Nat.le_refl _)) rfl _
  go_wp2_with fail
  refine wp_region_mixN w8.heap.size [([0, 1, 2, 3, 4, 5, 6, 7, 8, 9, 10], 11)] [12, 13, 14, 15, 16, 17, 18, 19, 20, 21, 22, 23, 24, 25, 26] (by kernel_rfl) (by kernel_rfl) (by kernel_rfl) (by kernel_rfl) ?_
  try (rw [put_none])
  simp only [pickL, List.map_cons, List.map_nil, List.filterMap_cons, List.filterMap_nil, List.getElem?_cons_succ, List.getElem?_cons_zero]
  refine mixN_cons ?_
  repeat (show wpQuiet _ _ _ _ (_ :: _) _; go_big_quiet_step (fail))
  refine wpQuiet_nil ?_
  show wpList _ _ _ [_] _ _
  go_wp2_with fail
  have D9 : Hid (Below w8.heap.size w8 (w8.alloc (.cells (z16.map (Value.int .u8)).toArray 5)).drew) := Lib.hid (((Below.refl _ _).alloc (Nat.le_refl _) _).drew)
  have R9 : Hid (Rd (w8.alloc (.cells (z16.map (Value.int .u8)).toArray 5)).drew.heap.size .u8 (w8.alloc (.cells (z16.map (Value.int .u8)).toArray 5)).drew (some ⟨w8.heap.size, 0, none⟩) z16) := Lib.hid (Rd.mono (Rd.drew (Rd.newAt (xs := z16) rfl rfl)) (by simp))
  obtain ⟨w9, hw9⟩ : ∃ w9, (w8.alloc (.cells (z16.map (Value.int .u8)).toArray 5)).drew = w9 := ⟨_, rfl⟩
  rw [hw9] at D9 R9 ⊢
  clear hw9 v1 v2 v3
  have v4 : ∀ r : BW w9.heap.size w9, (convert 28 9 (.slice (some ⟨w8.heap.size, 0, none⟩) 16 16)).run Try.prog r.world = .ok (.string (strOfNums z16)) r.world := fun r => conv_nE (R9.out.below r.below (Nat.le_refl _)) rfl _
  refine MixN.narrow D9.out D9.out.size ?_
  refine mixN_nil ?_
  repeat (show wpQuiet _ _ _ _ (_ :: _) _; go_big_quiet_step (fail))
  refine wpQuiet_nil ?_
  refine NoPanic.normal ?_
  clear v4
  go_wp2_with fail
  go_ret
  exact ⟨rfl, W8.out.trans (D9.out.mono W8.out.size)⟩
end Go.Proofs.Ytepkbllcaeceeaa
