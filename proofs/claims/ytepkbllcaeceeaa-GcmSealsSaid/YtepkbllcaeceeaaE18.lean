/- The law AesSeals, walked. Conditions: as each theorem states them. -/
import Derived.Test.YtepkbllcaeceeaaE17
namespace Go.Proofs.Ytepkbllcaeceeaa
open Go.RowKit
theorem ext_cells (W : List Int) (k : Nat) : (cellsL .u8 W).extract (k * 16) (k * 16 + 16) = cellsL .u8 (rkey W k) := by
  unfold cellsL rkey
  rw [List.extract_toArray]
  congr 1
  rw [List.extract_eq_take_drop, Nat.add_sub_cancel_left, List.map_take, List.map_drop, Nat.mul_comm]
theorem agg32 (w : World) : (isAgg 32).run Try.prog w = .ok true w := by kernel_rfl
theorem sz32 (w : World) : (sizeOf 32).run Try.prog w = .ok 16 w := by kernel_rfl
theorem idx16 (W : List Int) {k : Nat} (hk : k < 11) (w : World) : (Instr.index 40 (.agg (cellsL .u8 W)) (.int .i64 (k : Int))).run Try.prog w = .ok (.agg (cellsL .u8 (rkey W k))) w := by
  have h1 : (0 : Int) ≤ k ∧ (k : Int) < (11 : Nat) := ⟨by omega, by omega⟩
  unfold Instr.index
  simp only [asIntOf, Sem.run_bind, Sem.run_pure, Result.andThen_ok, run_underlying Try.underlying40]
  rw [if_pos h1]
  simp only [part, Sem.run_bind, sz32, agg32, Result.andThen_ok, Int.toNat_natCast, if_true, Sem.run_pure, ext_cells]
theorem str_app (X Y : List Int) : strOfNums X ++ strOfNums Y = strOfNums (X ++ Y) := by
  apply ByteArray.ext
  rw [ByteArray.data_append]
  apply Array.toList_inj.1
  rw [Array.toList_append, strOfNums_data, strOfNums_data, strOfNums_data, List.map_append]
theorem str_add (X Y : List Int) (hX : X.length ≤ 10000) (hY : Y.length ≤ 10000) (w : World) : (binOp .add 9 (.string (strOfNums X)) (.string (strOfNums Y))).run Try.prog w = .ok (.string (strOfNums (X ++ Y))) w := by
  have e1 := strOfNums_size X
  have e2 := strOfNums_size Y
  rw [binOp_string_add, run_string_add _ _ _ (by rw [e1]; omega) (by rw [e2]; omega), str_app]
theorem rkey_snoc (W : List Int) (k : Nat) : W.take (16 * k) ++ rkey W k = W.take (16 * (k + 1)) := by
  unfold rkey
  rw [show 16 * (k + 1) = 16 * k + 16 by omega, List.take_add]
theorem sealL_aes (K S : List Int) : sealL (wkL K) S = aesL K S := (aesL_eq K S).symm
set_option maxRecDepth 100000 in
set_option maxHeartbeats 8000000 in
theorem seals_walk (b : Int) (K S : List Int) (w : World) (hb : B8 b) (hK : Blk16 K) (hS : Blk16 S) :
    Calls Try.prog 6 #[.int .u8 b, .agg (cellsL .u8 K), .agg (cellsL .u8 S)] w fun e w' => e = .returned (.bool true) ∧ Below w.heap.size w w' := by
  have HX := Lib.hid hb
  have HK := Lib.hid hK
  have HS := Lib.hid hS
  have HP := Lib.hid (aesL_ok hK hS)
  have HW := Lib.hid (wkL_len hK)
  have HWB := Lib.hid (wkL_byt hK)
  have HBL := Lib.hid boxL_len
  have HSE := Lib.hid (sealL_aes K S)
  have hb0 := hb.1
  have hb1 := hb.2
  have SA : Hid (∀ g W, Ci W g K → Calls Try.prog 20 #[.pointer (some ⟨g, 0, none⟩), .agg (cellsL .u8 S)] W (RetV (.agg (cellsL .u8 (aesL K S))) W)) := Lib.hid (fun g W h => aseal_any g K S W hK hS h)
  clear hb hK hS
  have K3 : Hid (Arr ((w.alloc (.cells (cellsL .u8 K) 32)).alloc (.cells (cellsL .u8 S) 32)) w.heap.size 32 .u8 K) := Lib.hid ((Arr.newAt rfl rfl).alloc _)
  have A3 : Hid (Arr ((w.alloc (.cells (cellsL .u8 K) 32)).alloc (.cells (cellsL .u8 S) 32)) (w.heap.size + 1) 32 .u8 S) := Lib.hid (Arr.newAt (by simp) rfl)
  have W3 : Hid (Below w.heap.size w ((w.alloc (.cells (cellsL .u8 K) 32)).alloc (.cells (cellsL .u8 S) 32))) := Lib.hid (((Below.refl _ _).alloc (Nat.le_refl _) _).alloc (by simp) _)
  go_enter Try.func6, Try.ntmps6
  go_wp2_with fail
  refine Calls.mono (known08_any _) ?_
  rintro e w1 ⟨rfl, hb1⟩
  have K1 := Lib.hid (K3.out.belowAll hb1)
  have A1 := Lib.hid (A3.out.belowAll hb1)
  have W1 := Lib.hid (W3.out.trans (hb1.mono W3.out.size))
  clear hb1 K3 A3 W3
  go_wp2_with fail
  refine Calls.mono (rbox_any _) ?_
  rintro e w2 ⟨AB, nB, cB, rfl, ho2, hb2⟩
  obtain rfl : nB = 256 := by rw [ho2.len, HBL.out]
  have K2 := Lib.hid (K1.out.belowAll hb2)
  have A2 := Lib.hid (A1.out.belowAll hb2)
  have R2 := Lib.hid ho2.rd
  have W2 := Lib.hid (W1.out.trans (hb2.mono W1.out.size))
  clear hb2 ho2 K1 A1 W1
  go_wp2_with fail
  refine Calls.mono (rcols_any AB cB (some ⟨w.heap.size, 0, none⟩) _ K _ HK.out R2.out K2.out.rd) ?_
  rintro e w3 ⟨AW, nW, cW, rfl, ho3, hb3⟩
  obtain rfl : nW = 176 := by rw [ho3.len, HW.out]
  have K3 := Lib.hid (K2.out.belowAll hb3)
  have A3 := Lib.hid (A2.out.belowAll hb3)
  have R3 := Lib.hid ((R2.out.below hb3 (Nat.le_refl _)).mono hb3.size)
  have Q3 := Lib.hid ho3.rd
  have W3 := Lib.hid (W2.out.trans (hb3.mono W2.out.size))
  clear hb3 ho3 K2 A2 R2 W2
  go_wp2_with ((with_reducible (show wpList _ _ _ (⟨some 19, .load _ _, _, _, _, _⟩ :: _) _ _)); refine wpList_loadV (o := ⟨some 19, .load _ _, _, _, _, _⟩) rfl _ rfl rfl (arr_load K3.out Try.underlying32 sizeE16 HK.out.1.symm) ?_)
  refine Calls.mono (akeys_any K _ HK.out) ?_
  rintro e w4 ⟨rfl, hb4⟩
  have K4 := Lib.hid (K3.out.belowAll hb4)
  have A4 := Lib.hid (A3.out.belowAll hb4)
  have R4 := Lib.hid ((R3.out.below hb4 (Nat.le_refl _)).mono hb4.size)
  have Q4 := Lib.hid ((Q3.out.below hb4 (Nat.le_refl _)).mono hb4.size)
  have W4 := Lib.hid (W3.out.trans (hb4.mono W3.out.size))
  clear hb4 K3 A3 R3 Q3 W3
  have S0 : (strOfNums ((wkL K).take (16 * 0))) = ⟨#[]⟩ := rfl
  generalize wkL K = W at *
  go_wp2_with fail
  go_loopw [9, 21] (fun v i wr => ∃ k : Nat, k ≤ 11 ∧ v = .string (strOfNums (W.take (16 * k))) ∧ i = .int .i64 k ∧ Hid (Below w4.heap.size w4 wr)) (fun _ i _ => 11 - (intOf i).toNat)
  case atStart => exact ⟨0, by omega, by rw [S0], rfl, Lib.hid (Below.refl _ _)⟩
  case round =>
    clear S0
    obtain ⟨k, hk, rfl, rfl, HB⟩ := hrel
    by_cases hlt : k < 11
    · have hix := fun v => idx16 W hlt v
      have HR : Hid ((rkey W k).length = 16) := Lib.hid (rkey_ok HW.out HWB.out hlt).1
      have HSN := Lib.hid (rkey_snoc W k)
      generalize rkey W k = R at *
      have HTL : Hid ((W.take (16 * k)).length ≤ 10000) := Lib.hid (by rw [List.length_take, HW.out]; omega)
      generalize W.take (16 * k) = Y at *
      have v2 : (strOfNums Y).size ≤ 10000 := by rw [strOfNums_size]; exact HTL.out
      have v3 : (strOfNums R).size ≤ 16 := by rw [strOfNums_size, HR.out]; decide
      have HST : Hid (strOfNums Y ++ strOfNums R = strOfNums (W.take (16 * (k + 1)))) := Lib.hid (by rw [str_app, HSN.out])
      go_wp2_with ((with_reducible (show wpList _ _ _ (⟨none, .store 32 _ _, _, _, _, _⟩ :: _) _ _)); refine wpList_storeArr (o := ⟨none, .store 32 _ _, _, _, _, _⟩) (g := wr.heap.size) (t := 32) (k := .u8) (xs := R) (n := 16) rfl _ _ rfl rfl rfl (Blk.new _ _ _) sizeE16 HR.out.symm rfl ?_; intro w5 ha5 hg5; have A5 := Lib.hid ha5; have B5 := Lib.hid (HB.out.trans ((((Below.refl wr.heap.size wr).alloc (Nat.le_refl _) _).trans (below_of_only hg5 (Nat.le_refl _) (by simp))).mono HB.out.size)); have v1 := conv_nE ha5.rd HR.out 16; clear ha5 hg5)
      clear v1 v2 v3 hix
      go_roundw
      case rel => exact ⟨k + 1, by omega, by rw [HST.out], by go_num, B5⟩
      case measure => simp [intOf]; omega
    · have hk11 : k = 11 := by omega
      have HST : Hid (W.take (16 * k) = W) := Lib.hid (List.take_of_length_le (by rw [HW.out]; omega))
      rw [HST.out]
      have K5 := Lib.hid (K4.out.belowAll HB.out)
      have A5 := Lib.hid (A4.out.belowAll HB.out)
      have R5 := Lib.hid ((R4.out.below HB.out (Nat.le_refl _)).mono HB.out.size)
      have Q5 := Lib.hid ((Q4.out.below HB.out (Nat.le_refl _)).mono HB.out.size)
      have W5 := Lib.hid (W4.out.trans (HB.out.mono W4.out.size))
      have hg0 := K5.out.lt
      have hg1 := A5.out.lt
      clear K4 A4 R4 Q4 W4 HB
      clear hk hk11 HST
      go_wp2_with fail
      clear hlt
      refine wp_region_mixVB [⟨4, 12, 32, cellsL .u8 (nul 16)⟩] 5 [([0, 2], 1), ([], 3)] (by kernel_rfl) (by kernel_rfl) (by kernel_rfl) (by kernel_rfl) (by kernel_rfl) (by kernel_rfl) (by kernel_rfl) (by kernel_rfl) (by kernel_rfl) ?_ ?_
      · refine ⟨⟨by decide, _, rfl, ?_⟩, trivial⟩
        exact ⟨rfl, rfl, by kernel_rfl, al16 _ rfl⟩
      simp only [pickL, List.map_cons, List.map_nil, List.filterMap_cons, List.filterMap_nil, List.getElem?_cons_succ, List.getElem?_cons_zero]
      refine mixV_cons ?_
      show wpQuiet _ _ _ _ (_ :: _) _
      refine wpQuiet_loadV (o := ⟨some 29, _, _, _, _, _⟩) rfl _ rfl rfl (fun w' hw' => by obtain ⟨r, rfl⟩ := hw'; exact arr_load (K5.out.below r.below hg0) Try.underlying32 sizeE16 HK.out.1.symm) ?_
      simp only [Act.put, List.setIfInBounds_toArray, List.set_cons_zero, List.set_cons_succ]
      show wpQuiet _ _ _ _ (_ :: _) _
      refine wpQuiet_loadV (o := ⟨some 31, _, _, _, _, _⟩) rfl _ rfl rfl (fun w' hw' => by obtain ⟨r, rfl⟩ := hw'; exact arr_load (A5.out.below r.below hg1) Try.underlying32 sizeE16 HS.out.1.symm) ?_
      simp only [Act.put, List.setIfInBounds_toArray, List.set_cons_zero, List.set_cons_succ]
      refine wpQuiet_nil ?_
      rintro x0 ⟨r0, rfl⟩
      show wpList _ _ _ [_] _ _
      go_wp2_with fail
      refine Calls.mono (anew_any K _ HK.out) ?_
      rintro e x1 ⟨g1, rfl, hg1', hc1, hb1⟩
      have C1 := Lib.hid hc1
      have X1 := Lib.hid (r0.below.trans (hb1.mono r0.below.size))
      clear hc1
      go_wp2_with fail
      refine MixV.bw r0.below r0.below.size hb1 ?_
      clear hb1 hg1'
      refine mixV_cons ?_
      refine wpQuiet_nil ?_
      rintro x2 ⟨r2, rfl⟩
      show wpList _ _ _ [_] _ _
      go_wp2_with fail
      refine Calls.mono (SA.out g1 _ (C1.out.all r2.below)) ?_
      rintro e x3 ⟨rfl, hb3⟩
      have X2 := Lib.hid (X1.out.trans (r2.below.mono X1.out.size))
      have X3 := Lib.hid (X2.out.trans (hb3.mono X2.out.size))
      generalize aesL K S = P at *
      go_wp2_with fail
      refine MixV.bw r2.below r2.below.size hb3 ?_
      refine mixV_nil ?_
      rintro x4 ⟨r4, rfl⟩
      intro γ hγ hd
      obtain ⟨g4, e4, hN4, hB4⟩ := hγ _ (List.mem_cons_self ..)
      simp only at e4 hB4
      simp only [putsA, step1, e4, List.drop_succ_cons, List.drop_zero, Act.put, ptr0, List.setIfInBounds_toArray, List.set_cons_zero, List.set_cons_succ]
      have X4 := Lib.hid (X3.out.trans (r4.below.mono X3.out.size))
      have Z4 := Lib.hid hB4
      clear hB4 hb3 hγ hd e4 C1 X1 X2 X3
      go_wp2_with ((with_reducible (show wpList _ _ _ (⟨none, .store 32 _ _, _, _, _, _⟩ :: _) _ _)); refine wpList_storeArr (o := ⟨none, .store 32 _ _, _, _, _, _⟩) (g := g4) (t := 32) (k := .u8) (xs := P) (n := 16) rfl _ _ rfl rfl rfl Z4.out sizeE16 HP.out.1.symm rfl ?_; intro w5 ha5 hg5; have A9 := Lib.hid ha5; have G9 := Lib.hid hg5; clear ha5 hg5)
      refine NoPanic.normal ?_
      have B9 := Lib.hid (X4.out.trans (below_of_only G9.out hN4 X4.out.size))
      have S9 := Lib.hid (A5.out.below B9.out hg1)
      have R9 := Lib.hid ((R5.out.below B9.out (Nat.le_refl _)).mono B9.out.size)
      have Q9 := Lib.hid ((Q5.out.below B9.out (Nat.le_refl _)).mono B9.out.size)
      have W9 := Lib.hid (W5.out.trans (B9.out.mono W5.out.size))
      clear K5 A5 R5 Q5 W5 B9 G9 X4 Z4 hN4
      obtain ⟨adB, rfl, hadB⟩ := R9.out.isSome (by rw [HBL.out]; decide)
      have p1 : ∀ r : BW w5.heap.size w5, r.world.cell? (adB.add b.toNat) = some (.int .u8 (sub b)) := fun r => by
        have := (R9.out.below r.below (Nat.le_refl _)).at_ (i := b.toNat) (by rw [HBL.out]; omega)
        rw [this]; rfl
      go_wp2_with fail
      refine wp_region_mixN w5.heap.size [([0, 2, 3, 4, 5], 1), ([6, 7, 8, 9, 10, 11, 12, 13, 14, 15, 16, 17, 18], 19)] [20, 21, 22, 23] (by kernel_rfl) (by kernel_rfl) (by kernel_rfl) (by kernel_rfl) ?_
      try (rw [put_none])
      simp only [pickL, List.map_cons, List.map_nil, List.filterMap_cons, List.filterMap_nil, List.getElem?_cons_succ, List.getElem?_cons_zero]
      refine mixN_cons ?_
      repeat (show wpQuiet _ _ _ _ (_ :: _) _; go_big_quiet_step (fail))
      refine wpQuiet_nil ?_
      show wpList _ _ _ [_] _ _
      go_wp2_with fail
      refine Calls.mono (sub_any b _ HX.out) ?_
      rintro e y1 ⟨rfl, hy1⟩
      have Y1 := Lib.hid ((Below.refl w5.heap.size w5).drew.trans hy1)
      clear hy1
      go_wp2_with fail
      have v1 : ∀ r : BW y1.heap.size y1, (convert 28 9 (.slice AW 176 cW)).run Try.prog r.world = .ok (.string (strOfNums W)) r.world := fun r => conv_nE ((Q9.out.below Y1.out (Nat.le_refl _)).below r.below Y1.out.size) HW.out _
      have v2 : ∀ r : BW y1.heap.size y1, (convert 28 9 (.slice (some ⟨g4, 0, none⟩) 16 16)).run Try.prog r.world = .ok (.string (strOfNums P)) r.world := fun r => conv_nE ((A9.out.below Y1.out A9.out.lt).belowAll r.below).rd HP.out.1 _
      clear p1
      refine MixN.narrow Y1.out Y1.out.size ?_
      refine mixN_cons ?_
      repeat (show wpQuiet _ _ _ _ (_ :: _) _; go_big_quiet_step (fail))
      refine wpQuiet_nil ?_
      show wpList _ _ _ [_] _ _
      go_wp2_with fail
      refine Calls.mono (rseal_any (some adB) AW (some ⟨w.heap.size + 1, 0, none⟩) cB cW _ W S _ HW.out HWB.out HS.out ((R9.out.below Y1.out (Nat.le_refl _)).mono Y1.out.size) ((Q9.out.below Y1.out (Nat.le_refl _)).mono Y1.out.size) (S9.out.below Y1.out S9.out.lt).rd) ?_
      rintro e y2 ⟨A8, n8, c8, rfl, ho8, hy2⟩
      obtain rfl : n8 = 16 := by rw [ho8.len, HSE.out, HP.out.1]
      have Y2 := Lib.hid (Y1.out.trans (hy2.mono Y1.out.size))
      have O8 : Hid (Rd y2.heap.size .u8 y2 A8 P) := Lib.hid (by have h := ho8.rd; rwa [HSE.out] at h)
      have HY2 := Lib.hid hy2
      clear hy2 ho8
      go_wp2_with fail
      have v3 : ∀ r : BW y2.heap.size y2, (convert 28 9 (.slice A8 16 c8)).run Try.prog r.world = .ok (.string (strOfNums P)) r.world := fun r => conv_nE (O8.out.below r.below (Nat.le_refl _)) HP.out.1 _
      clear v1 v2
      refine MixN.narrow HY2.out HY2.out.size ?_
      refine mixN_nil ?_
      repeat (show wpQuiet _ _ _ _ (_ :: _) _; go_big_quiet_step (fail))
      refine wpQuiet_nil ?_
      refine NoPanic.normal ?_
      go_wp2_with fail
      go_ret
      exact ⟨rfl, W9.out.trans (Y2.out.mono W9.out.size)⟩
end Go.Proofs.Ytepkbllcaeceeaa
