/- The law AesApart, walked. Conditions: as each theorem states them. -/
import Derived.Test.YtepkbllcaeceeaaE13
namespace Go.Proofs.Ytepkbllcaeceeaa
open Go.RowKit
set_option maxRecDepth 100000 in
set_option maxHeartbeats 8000000 in
theorem apart_walk (x y : Int) (K A B : List Int) (w : World) (hx : B8 x) (hy : B8 y) (hK : Blk16 K) (hA : Blk16 A) (hB : Blk16 B) :
    Calls Try.prog 5 #[.int .u8 x, .int .u8 y, .agg (cellsL .u8 K), .agg (cellsL .u8 A), .agg (cellsL .u8 B)] w fun e w' => e = .returned (.bool true) ∧ Below w.heap.size w w' := by
  have HX := Lib.hid hx
  have HY := Lib.hid hy
  have HK := Lib.hid hK
  have HA := Lib.hid hA
  have HB := Lib.hid hB
  have HP := Lib.hid (aesL_ok hK hA)
  have HQ := Lib.hid (aesL_ok hK hB)
  obtain ⟨bb, hb1, hb2⟩ : ∃ bb : Bool, (sub x == sub y) = bb ∧ (x == y) = bb := by
    by_cases h : x = y
    · exact ⟨true, by simp [h], by simp [h]⟩
    · exact ⟨false, by simpa using fun e => h (sub_inj hx hy e), by simpa using h⟩
  have q1 : ∃ b2 : Bool, (∀ W, (binOp .eql 32 (.agg (cellsL .u8 (aesL K A))) (.agg (cellsL .u8 (aesL K B)))).run Try.prog W = .ok (.bool b2) W) ∧ (∀ W, (binOp .eql 32 (.agg (cellsL .u8 A)) (.agg (cellsL .u8 B))).run Try.prog W = .ok (.bool b2) W) :=
    ⟨decide (A = B), fun W => by
      rw [eql16E HP.out.1 HQ.out.1 HP.out.2 HQ.out.2]
      congr 2
      exact decide_eq_decide.2 ⟨aesL_inj hK hA hB, fun h => by rw [h]⟩, fun W => eql16E hA.1 hB.1 hA.2 hB.2 W⟩
  obtain ⟨b2, qa, qb⟩ := q1
  have QA := Lib.hid qa
  have QB := Lib.hid qb
  have QP : Hid (∀ W, (binOp .eql 32 (.agg (cellsL .u8 (aesL K A))) (.agg (cellsL .u8 (aesL K A)))).run Try.prog W = .ok (.bool true) W) := Lib.hid (fun W => by rw [eql16E HP.out.1 HP.out.1 HP.out.2 HP.out.2]; simp)
  have QQ : Hid (∀ W, (binOp .eql 32 (.agg (cellsL .u8 (aesL K B))) (.agg (cellsL .u8 (aesL K B)))).run Try.prog W = .ok (.bool true) W) := Lib.hid (fun W => by rw [eql16E HQ.out.1 HQ.out.1 HQ.out.2 HQ.out.2]; simp)
  have HB1 := Lib.hid hb1
  have HB2 := Lib.hid hb2
  have SA : Hid (∀ g W, Ci W g K → Calls Try.prog 20 #[.pointer (some ⟨g, 0, none⟩), .agg (cellsL .u8 A)] W (RetV (.agg (cellsL .u8 (aesL K A))) W)) := Lib.hid (fun g W h => aseal_any g K A W hK hA h)
  have SB : Hid (∀ g W, Ci W g K → Calls Try.prog 20 #[.pointer (some ⟨g, 0, none⟩), .agg (cellsL .u8 B)] W (RetV (.agg (cellsL .u8 (aesL K B))) W)) := Lib.hid (fun g W h => aseal_any g K B W hK hB h)
  clear hx hy hK hA hB hb1 hb2 qa qb
  generalize aesL K A = P at *
  generalize aesL K B = Q at *
  have K3 : Hid (Arr (((w.alloc (.cells (cellsL .u8 K) 32)).alloc (.cells (cellsL .u8 A) 32)).alloc (.cells (cellsL .u8 B) 32)) w.heap.size 32 .u8 K) := Lib.hid (((Arr.newAt rfl rfl).alloc _).alloc _)
  have A3 : Hid (Arr (((w.alloc (.cells (cellsL .u8 K) 32)).alloc (.cells (cellsL .u8 A) 32)).alloc (.cells (cellsL .u8 B) 32)) (w.heap.size + 1) 32 .u8 A) := Lib.hid ((Arr.newAt (by simp) rfl).alloc _)
  have B3 : Hid (Arr (((w.alloc (.cells (cellsL .u8 K) 32)).alloc (.cells (cellsL .u8 A) 32)).alloc (.cells (cellsL .u8 B) 32)) (w.heap.size + 1 + 1) 32 .u8 B) := Lib.hid (Arr.newAt (by simp) rfl)
  have W3 : Hid (Below w.heap.size w (((w.alloc (.cells (cellsL .u8 K) 32)).alloc (.cells (cellsL .u8 A) 32)).alloc (.cells (cellsL .u8 B) 32))) := Lib.hid ((((Below.refl _ _).alloc (Nat.le_refl _) _).alloc (by simp) _).alloc (by simp <;> omega) _)
  go_enter Try.func5, Try.ntmps5
  go_wp2_with fail
  refine Calls.mono (known08_any _) ?_
  rintro e w1 ⟨rfl, hb1⟩
  have K1 := Lib.hid (K3.out.belowAll hb1)
  have A1 := Lib.hid (A3.out.belowAll hb1)
  have B1 := Lib.hid (B3.out.belowAll hb1)
  have W1 := Lib.hid (W3.out.trans (hb1.mono W3.out.size))
  clear hb1 K3 A3 B3 W3
  go_wp2_with ((with_reducible (show wpList _ _ _ (⟨some 16, .load _ _, _, _, _, _⟩ :: _) _ _)); refine wpList_loadV (o := ⟨some 16, .load _ _, _, _, _, _⟩) rfl _ rfl rfl (arr_load K1.out Try.underlying32 sizeE16 HK.out.1.symm) ?_)
  refine Calls.mono (anew_any K _ HK.out) ?_
  rintro e w2 ⟨g, rfl, hg2, hc2, hb2⟩
  have K2 := Lib.hid (K1.out.belowAll hb2)
  have A2 := Lib.hid (A1.out.belowAll hb2)
  have B2 := Lib.hid (B1.out.belowAll hb2)
  have C2 := Lib.hid hc2
  have W2 := Lib.hid (W1.out.trans (hb2.mono W1.out.size))
  have hgl := hc2.lt
  have hk2 := K2.out.lt
  have ha2 := A2.out.lt
  have hbb2 := B2.out.lt
  clear hb2 hc2 K1 A1 B1 W1
  go_wp2_with fail
  refine wp_region_mixVB [⟨6, 12, 32, cellsL .u8 (nul 16)⟩, ⟨7, 13, 32, cellsL .u8 (nul 16)⟩] 8 [([0, 1, 3, 4], 2), ([], 5)] (by kernel_rfl) (by kernel_rfl) (by kernel_rfl) (by kernel_rfl) (by kernel_rfl) (by kernel_rfl) (by kernel_rfl) (by kernel_rfl) (by kernel_rfl) ?_ ?_
  · refine ⟨⟨by decide, _, rfl, ?_⟩, ⟨by decide, _, rfl, ?_⟩, trivial⟩
    · exact ⟨rfl, rfl, by kernel_rfl, al16 _ rfl⟩
    · exact ⟨rfl, rfl, by kernel_rfl, al16 _ rfl⟩
  simp only [pickL, List.map_cons, List.map_nil, List.filterMap_cons, List.filterMap_nil, List.getElem?_cons_succ, List.getElem?_cons_zero]
  refine mixV_cons ?_
  show wpQuiet _ _ _ _ (_ :: _) _
  go_big_quiet_step (fail)
  show wpQuiet _ _ _ _ (_ :: _) _
  refine wpQuiet_loadV (o := ⟨some 19, _, _, _, _, _⟩) rfl _ rfl rfl (fun w' hw' => by obtain ⟨r, rfl⟩ := hw'; exact arr_load (A2.out.below r.below ha2) Try.underlying32 sizeE16 HA.out.1.symm) ?_
  simp only [Act.put, List.setIfInBounds_toArray, List.set_cons_zero, List.set_cons_succ]
  show wpQuiet _ _ _ _ (_ :: _) _
  go_big_quiet_step (fail)
  show wpQuiet _ _ _ _ (_ :: _) _
  refine wpQuiet_loadV (o := ⟨some 22, _, _, _, _, _⟩) rfl _ rfl rfl (fun w' hw' => by obtain ⟨r, rfl⟩ := hw'; exact arr_load (B2.out.below r.below hbb2) Try.underlying32 sizeE16 HB.out.1.symm) ?_
  simp only [Act.put, List.setIfInBounds_toArray, List.set_cons_zero, List.set_cons_succ]
  refine wpQuiet_nil ?_
  rintro x0 ⟨r0, rfl⟩
  show wpList _ _ _ [_] _ _
  go_wp2_with fail
  refine Calls.mono (SA.out g _ (C2.out.below r0.below hgl)) ?_
  rintro e x1 ⟨rfl, hb1⟩
  have X1 := Lib.hid (r0.below.trans (hb1.mono r0.below.size))
  go_wp2_with fail
  refine MixV.bw r0.below r0.below.size hb1 ?_
  clear hb1
  refine mixV_cons ?_
  refine wpQuiet_nil ?_
  rintro x2 ⟨r2, rfl⟩
  have X2 := Lib.hid (X1.out.trans (r2.below.mono X1.out.size))
  show wpList _ _ _ [_] _ _
  go_wp2_with fail
  refine Calls.mono (SB.out g _ (C2.out.below X2.out hgl)) ?_
  rintro e x3 ⟨rfl, hb3⟩
  have X3 := Lib.hid (X2.out.trans (hb3.mono X2.out.size))
  go_wp2_with fail
  refine MixV.bw r2.below r2.below.size hb3 ?_
  refine mixV_nil ?_
  rintro x4 ⟨r4, rfl⟩
  intro γ hγ hd
  obtain ⟨g12, e12, hN12, hB12⟩ := hγ ⟨6, 12, 32, cellsL .u8 (nul 16)⟩ (by simp)
  obtain ⟨g13, e13, hN13, hB13⟩ := hγ ⟨7, 13, 32, cellsL .u8 (nul 16)⟩ (by simp)
  simp only at e12 hB12 e13 hB13
  have hne : g12 ≠ g13 := fun e => by
    have := hd ⟨6, 12, 32, cellsL .u8 (nul 16)⟩ (by simp) ⟨7, 13, 32, cellsL .u8 (nul 16)⟩ (by simp) (by simp only; rw [e12, e13, e])
    simp at this
  simp only [putsA, step1, e12, e13, List.drop_succ_cons, List.drop_zero, Act.put, ptr0, List.setIfInBounds_toArray, List.set_cons_zero, List.set_cons_succ]
  have X4 := Lib.hid (X3.out.trans (r4.below.mono X3.out.size))
  obtain ⟨w5, hs5, hz5, hg5⟩ := blk_storeAll (P := Try.prog) (ty := 32) (vs := iv .u8 P) hB12 (by rw [iv_len, HP.out.1, cellsL_size, nul_len]) (iv_one _ _) (by rw [iv_len, HP.out.1]; exact sizeE16)
  obtain ⟨w6, hs6, hz6, hg6⟩ := blk_storeAll (P := Try.prog) (ty := 32) (vs := iv .u8 Q) (Blk.grown hB13 hg5 (by simp; omega)) (by rw [iv_len, HQ.out.1, cellsL_size, nul_len]) (iv_one _ _) (by rw [iv_len, HQ.out.1]; exact sizeE16)
  have S5 := Lib.hid hs5
  have S6 := Lib.hid hs6
  have P6 : Hid (Arr w6 g12 32 .u8 P) := Lib.hid (Blk.grown hz5 hg6 (by simp; omega))
  have Q6 : Hid (Arr w6 g13 32 .u8 Q) := Lib.hid hz6
  have X6 := Lib.hid ((X4.out.trans (below_of_only hg5 hN12 X4.out.size)).trans (below_of_only hg6 hN13 (Nat.le_trans X4.out.size hg5.size)))
  have K6 := Lib.hid (K2.out.below X6.out hk2)
  have A6 := Lib.hid (A2.out.below X6.out ha2)
  have B6 := Lib.hid (B2.out.below X6.out hbb2)
  have C6 := Lib.hid (C2.out.below X6.out hgl)
  have W6 := Lib.hid (W2.out.trans (X6.out.mono W2.out.size))
  clear hs5 hz5 hg5 hs6 hz6 hg6 hb3 hγ hd e12 e13 hB12 hB13 K2 A2 B2 C2 X1 X2 X3 X4 X6 W2
  go_wp2_with (first
    | ((with_reducible (show wpList _ _ _ (⟨none, .store 32 _ _, _, _, _, _⟩ :: _) _ _)); refine wpList_storeV (o := ⟨none, .store 32 _ _, _, _, _, _⟩) rfl _ _ rfl rfl rfl S5.out ?_)
    | ((with_reducible (show wpList _ _ _ (⟨none, .store 32 _ _, _, _, _, _⟩ :: _) _ _)); refine wpList_storeV (o := ⟨none, .store 32 _ _, _, _, _, _⟩) rfl _ _ rfl rfl rfl S6.out ?_))
  refine NoPanic.normal ?_
  clear S5 S6
  have b1 := HB1.out
  have b2' := HB2.out
  have qa := QA.out
  have qb := QB.out
  have qp := QP.out
  have qq := QQ.out
  go_wp2_with fail
  refine wp_region_mix_below w6.heap.size [([0, 2, 5, 6, 7], 1), ([], 3), ([4, 8, 9, 10, 11, 12, 13, 14, 15, 16, 17, 18, 19, 20, 22], 21), ([23, 24, 25, 26, 28, 30], 27), ([], 29)] [31, 32, 33] (by kernel_rfl) (by kernel_rfl) (by kernel_rfl) (by kernel_rfl) ?_
  simp only [pickL, List.map_cons, List.map_nil, List.filterMap_cons, List.filterMap_nil, List.getElem?_cons_succ, List.getElem?_cons_zero]
  refine mixS_cons ?_
  repeat (show wpQuiet _ _ _ _ (_ :: _) _; go_big_quiet_step (fail))
  refine wpQuiet_nil ?_
  show wpList _ _ _ [_] _ _
  go_wp2_with fail
  refine Calls.mono (sub_any x _ HX.out) ?_
  rintro e y1 ⟨rfl, hy1⟩
  have Y1 := Lib.hid ((Below.refl w6.heap.size w6).drew.trans hy1)
  clear hy1
  go_wp2_with fail
  refine MixQ.below Y1.out ?_
  refine mixS_cons ?_
  refine wpQuiet_nil ?_
  show wpList _ _ _ [_] _ _
  go_wp2_with fail
  refine Calls.mono (sub_any y _ HY.out) ?_
  rintro e y2 ⟨rfl, hy2⟩
  have Y2 := Lib.hid (Y1.out.trans (hy2.mono Y1.out.size))
  clear hy2
  go_wp2_with fail
  refine MixQ.below Y2.out ?_
  refine mixS_cons ?_
  repeat (show wpQuiet _ _ _ _ (_ :: _) _; go_big_quiet_step (fail))
  show wpQuiet _ _ _ _ (_ :: _) _
  refine wpQuiet_loadV (o := ⟨some 34, _, _, _, _, _⟩) rfl _ rfl rfl (fun w' hw' => by obtain ⟨r, rfl⟩ := hw'; exact arr_load (P6.out.below r.below P6.out.lt) Try.underlying32 sizeE16 HP.out.1.symm) ?_
  simp only [Act.put, List.setIfInBounds_toArray, List.set_cons_zero, List.set_cons_succ]
  show wpQuiet _ _ _ _ (_ :: _) _
  refine wpQuiet_loadV (o := ⟨some 35, _, _, _, _, _⟩) rfl _ rfl rfl (fun w' hw' => by obtain ⟨r, rfl⟩ := hw'; exact arr_load (Q6.out.below r.below Q6.out.lt) Try.underlying32 sizeE16 HQ.out.1.symm) ?_
  simp only [Act.put, List.setIfInBounds_toArray, List.set_cons_zero, List.set_cons_succ]
  repeat (show wpQuiet _ _ _ _ (_ :: _) _; go_big_quiet_step (fail))
  show wpQuiet _ _ _ _ (_ :: _) _
  refine wpQuiet_loadV (o := ⟨some 37, _, _, _, _, _⟩) rfl _ rfl rfl (fun w' hw' => by obtain ⟨r, rfl⟩ := hw'; exact arr_load (A6.out.below r.below A6.out.lt) Try.underlying32 sizeE16 HA.out.1.symm) ?_
  simp only [Act.put, List.setIfInBounds_toArray, List.set_cons_zero, List.set_cons_succ]
  show wpQuiet _ _ _ _ (_ :: _) _
  refine wpQuiet_loadV (o := ⟨some 38, _, _, _, _, _⟩) rfl _ rfl rfl (fun w' hw' => by obtain ⟨r, rfl⟩ := hw'; exact arr_load (B6.out.below r.below B6.out.lt) Try.underlying32 sizeE16 HB.out.1.symm) ?_
  simp only [Act.put, List.setIfInBounds_toArray, List.set_cons_zero, List.set_cons_succ]
  repeat (show wpQuiet _ _ _ _ (_ :: _) _; go_big_quiet_step (fail))
  show wpQuiet _ _ _ _ (_ :: _) _
  refine wpQuiet_loadV (o := ⟨some 44, _, _, _, _, _⟩) rfl _ rfl rfl (fun w' hw' => by obtain ⟨r, rfl⟩ := hw'; exact arr_load (A6.out.below r.below A6.out.lt) Try.underlying32 sizeE16 HA.out.1.symm) ?_
  simp only [Act.put, List.setIfInBounds_toArray, List.set_cons_zero, List.set_cons_succ]
  show wpQuiet _ _ _ _ (_ :: _) _
  refine wpQuiet_loadV (o := ⟨some 46, _, _, _, _, _⟩) rfl _ rfl rfl (fun w' hw' => by obtain ⟨r, rfl⟩ := hw'; exact arr_load (P6.out.below r.below P6.out.lt) Try.underlying32 sizeE16 HP.out.1.symm) ?_
  simp only [Act.put, List.setIfInBounds_toArray, List.set_cons_zero, List.set_cons_succ]
  repeat (show wpQuiet _ _ _ _ (_ :: _) _; go_big_quiet_step (fail))
  refine wpQuiet_nil ?_
  show wpList _ _ _ [_] _ _
  go_wp2_with fail
  refine Calls.mono (SA.out g _ (C6.out.below Y2.out C6.out.lt)) ?_
  rintro e y3 ⟨rfl, hy3⟩
  have Y3 := Lib.hid (Y2.out.trans (hy3.mono Y2.out.size))
  clear hy3
  go_wp2_with fail
  refine MixQ.below Y3.out ?_
  refine mixS_cons ?_
  repeat (show wpQuiet _ _ _ _ (_ :: _) _; go_big_quiet_step (fail))
  show wpQuiet _ _ _ _ (_ :: _) _
  refine wpQuiet_loadV (o := ⟨some 50, _, _, _, _, _⟩) rfl _ rfl rfl (fun w' hw' => by obtain ⟨r, rfl⟩ := hw'; exact arr_load (K6.out.below r.below K6.out.lt) Try.underlying32 sizeE16 HK.out.1.symm) ?_
  simp only [Act.put, List.setIfInBounds_toArray, List.set_cons_zero, List.set_cons_succ]
  show wpQuiet _ _ _ _ (_ :: _) _
  refine wpQuiet_loadV (o := ⟨some 52, _, _, _, _, _⟩) rfl _ rfl rfl (fun w' hw' => by obtain ⟨r, rfl⟩ := hw'; exact arr_load (B6.out.below r.below B6.out.lt) Try.underlying32 sizeE16 HB.out.1.symm) ?_
  simp only [Act.put, List.setIfInBounds_toArray, List.set_cons_zero, List.set_cons_succ]
  show wpQuiet _ _ _ _ (_ :: _) _
  refine wpQuiet_loadV (o := ⟨some 54, _, _, _, _, _⟩) rfl _ rfl rfl (fun w' hw' => by obtain ⟨r, rfl⟩ := hw'; exact arr_load (Q6.out.below r.below Q6.out.lt) Try.underlying32 sizeE16 HQ.out.1.symm) ?_
  simp only [Act.put, List.setIfInBounds_toArray, List.set_cons_zero, List.set_cons_succ]
  repeat (show wpQuiet _ _ _ _ (_ :: _) _; go_big_quiet_step (fail))
  refine wpQuiet_nil ?_
  show wpList _ _ _ [_] _ _
  go_wp2_with fail
  refine Calls.mono (anew_any K _ HK.out) ?_
  rintro e y4 ⟨g2, rfl, _, hc4, hy4⟩
  have C4 := Lib.hid hc4
  have Y4 := Lib.hid (Y3.out.trans (hy4.mono Y3.out.size))
  clear hy4 hc4
  go_wp2_with fail
  refine MixQ.below Y4.out ?_
  refine mixS_cons ?_
  repeat (show wpQuiet _ _ _ _ (_ :: _) _; go_big_quiet_step (fail))
  refine wpQuiet_nil ?_
  show wpList _ _ _ [_] _ _
  go_wp2_with fail
  refine Calls.mono (SB.out g2 _ C4.out) ?_
  rintro e y5 ⟨rfl, hy5⟩
  have Y5 := Lib.hid (Y4.out.trans (hy5.mono Y4.out.size))
  clear hy5
  go_wp2_with fail
  refine MixQ.below Y5.out ?_
  refine mixS_nil ?_
  repeat (show wpQuiet _ _ _ _ (_ :: _) _; go_big_quiet_step (fail))
  refine wpQuiet_nil ?_
  refine NoPanic.normal ?_
  go_wp2_with fail
  go_ret
  exact ⟨rfl, W6.out.trans (Y5.out.mono W6.out.size)⟩
end Go.Proofs.Ytepkbllcaeceeaa
