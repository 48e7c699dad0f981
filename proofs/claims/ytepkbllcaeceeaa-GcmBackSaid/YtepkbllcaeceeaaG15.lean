/- The law GcmJoins, walked. Conditions: as each theorem states them. -/
import Derived.Test.YtepkbllcaeceeaaG14
namespace Go.Proofs.Ytepkbllcaeceeaa
open Go.RowKit
set_option maxRecDepth 100000 in
set_option maxHeartbeats 8000000 in
theorem joins_walk (A1 A2 : Option Addr) (c1 c2 n1 n2 : Nat) (h a b : List Int) (w : World) (hh : Blk16 h) (h1 : a.length = n1) (h2 : b.length = n2) (ha : Byt a) (hb : Byt b) (hc1 : n1 ≤ c1) (hc2 : n2 ≤ c2) (hr1 : Rd w.heap.size .u8 w A1 a) (hr2 : Rd w.heap.size .u8 w A2 b) (hl1 : n1 ≤ maxLen) :
    Calls Try.prog 12 #[.agg (cellsL .u8 h), .slice A1 n1 c1, .slice A2 n2 c2] w fun e w' => e = .returned (.bool true) ∧ Below w.heap.size w w' := by
  have HH := Lib.hid hh
  have H1 := Lib.hid h1
  have H2 := Lib.hid h2
  have HA := Lib.hid ha
  have HB := Lib.hid hb
  have K0 : Hid (Arr (w.alloc (.cells (cellsL .u8 h) 32)) w.heap.size 32 .u8 h) := Lib.hid (Arr.newAt rfl rfl)
  have B0 : Hid (Below w.heap.size w (w.alloc (.cells (cellsL .u8 h) 32))) := Lib.hid ((Below.refl _ _).alloc (Nat.le_refl _) _)
  have R1 := Lib.hid (hr1.below B0.out (Nat.le_refl _))
  have R2 := Lib.hid (hr2.below B0.out (Nat.le_refl _))
  clear hh h1 h2 ha hb hr1 hr2
  go_enter Try.func12, Try.ntmps12
  go_wp2_with fail
  refine Calls.mono (known09_any _) ?_
  rintro e w3 ⟨rfl, hb3⟩
  have K3 := Lib.hid (K0.out.belowAll hb3)
  have W3 := Lib.hid (B0.out.trans (hb3.mono B0.out.size))
  have R13 := Lib.hid ((R1.out.below (hb3.mono B0.out.size) (Nat.le_refl _)))
  have R23 := Lib.hid ((R2.out.below (hb3.mono B0.out.size) (Nat.le_refl _)))
  clear hb3 K0 B0 R1 R2
  by_cases h600 : 600 < n1
  · go_wp2_with fail
    go_ret
    exact ⟨rfl, W3.out⟩
  · by_cases hne : n1 = n2
    · subst hne
      have HXL : Hid ((xaL a b).length = n1) := Lib.hid (by rw [xaL_len (by rw [H1.out, H2.out]), H1.out])
      have HXG : Hid (∀ k, (xaL a b).getD k 0 = xb (a.getD k 0) (b.getD k 0)) := Lib.hid (fun k => xaL_getD (by rw [H1.out, H2.out]) k)
      have HXB := Lib.hid (xaL_byt a b)
      have HHX := Lib.hid (hashL_xor (h := h) (show a.length = b.length by rw [H1.out, H2.out]) HA.out HB.out)
      have O0 : Hid (Own w3.heap.size 5 .u8 (w3.alloc (.cells #[] 5)) (some ⟨w3.heap.size, 0, none⟩) 0 0 []) := Lib.hid (Own.litAt rfl rfl rfl (Nat.le_refl _) (Nat.zero_le _))
      have R14 := Lib.hid ((R13.out.below ((Below.refl w3.heap.size w3).alloc (Nat.le_refl _) (.cells #[] 5)) W3.out.size))
      generalize xaL a b = T at *
      go_wp2_with (at_builtin; refine wpList_app (o := ⟨some 27, _, _, _, _, _⟩) elB8 rfl _ _ rfl rfl rfl O0.out R14.out H1.out.symm ?_ ?_ ?_; (rw [H1.out]; simp <;> omega); (simp); intro A7 n7 c7 w7 q7; have O7 : Hid (Own w3.heap.size 5 .u8 w7 A7 n7 c7 a) := Lib.hid q7.1; obtain rfl : n7 = n1 := (by rw [q7.1.len, List.nil_append, H1.out]); have B7 := Lib.hid (((Below.refl w3.heap.size w3).alloc (Nat.le_refl _) _).trans q7.2.2.1); clear q7)
      have G7 : Hid (0 < n7 → ∃ g, A7 = some ⟨g, 0, none⟩) := Lib.hid (fun h => by obtain ⟨g, hg, _⟩ := O7.out.addr h; exact ⟨g, hg⟩)
      have O70 : Hid (Own w3.heap.size 5 .u8 w7 A7 n7 c7 (mixL a T 0)) := Lib.hid (by rw [mix_zero]; exact O7.out)
      clear O0 R14 O7
      go_loopw [30] (fun ii wr => ∃ k : Nat, k ≤ n7 ∧ ii = .int .i64 k ∧ Hid (Own w3.heap.size 5 .u8 wr A7 n7 c7 (mixL a T k)) ∧ Hid (Below w3.heap.size w3 wr)) (fun ii _ => n7 - (intOf ii).toNat)
      case atStart => exact ⟨0, by omega, rfl, O70, B7⟩
      case round =>
        clear O70 B7
        obtain ⟨k, hk, rfl, HO, HBW⟩ := hrel
        by_cases hlt : k < n7
        · obtain ⟨g, rfl⟩ := G7.out (by omega)
          obtain ⟨ad2, rfl, had2⟩ := R23.out.isSome (by rw [H2.out]; omega)
          have hml : Hid ((mixL a T k).length = n7) := Lib.hid (by rw [mix_len (by rw [H1.out, HXL.out]) (by rw [H1.out]; omega), H1.out])
          have p1 : ∀ r : BW wr.heap.size wr, r.world.cell? ⟨g, k, none⟩ = some (.int .u8 (a.getD k 0)) := fun r => by
            have := (HO.out.below r.below).cell0 (i := k) (by rw [hml.out]; exact hlt)
            rwa [mix_get (by rw [H1.out, HXL.out]) (Nat.le_refl _)] at this
          have p2 : ∀ r : BW wr.heap.size wr, r.world.cell? (ad2.add k) = some (.int .u8 (b.getD k 0)) := fun r => ((R23.out.below (HBW.out.mono W3.out.size) (Nat.le_refl _)).below r.below (Nat.le_trans W3.out.size HBW.out.size)).at_ (by rw [H2.out]; omega)
          have f1 := HO.out.frozen k
          have q1 : wr.cell? ⟨g, k, none⟩ = some (.int .u8 (a.getD k 0)) := p1 ⟨wr, Below.refl _ _⟩
          have hgb : w3.heap.size ≤ g := (HO.out.block _ rfl).1
          have HMS := Lib.hid (mix_set (xs := a) (ys := T) (k := k) (by rw [H1.out, HXL.out]) (by rw [H1.out]; exact hlt))
          rw [HXG.out k] at HMS
          generalize a.getD k 0 = x at *
          generalize b.getD k 0 = y at *
          go_wp2_with fail
          refine wp_region_mixOB wr.heap.size [([0, 1, 2, 3, 4, 5, 6, 7, 8, 9], 10)] (by kernel_rfl) (by kernel_rfl) (by kernel_rfl) (by kernel_rfl) (by kernel_rfl) ?_
          try (rw [put_none])
          simp only [pickL, List.map_cons, List.map_nil, List.filterMap_cons, List.filterMap_nil, List.getElem?_cons_succ, List.getElem?_cons_zero]
          refine mixO_cons ?_
          repeat (show wpQuiet _ _ _ _ (_ :: _) _; go_big_quiet_step (fail))
          refine wpQuiet_nil ?_
          show wpList _ _ _ [_] _ _
          go_wp2_with fail
          refine MixO.last ?_
          refine mixO_nil ?_
          refine wpQuiet_nil ?_
          refine NoPanic.normal ?_
          have HO9 : Hid (Own w3.heap.size 5 .u8 (wr.setCell ⟨g, k, none⟩ (.int .u8 (bits .xor .u8 x y))).drew (some ⟨g, 0, none⟩) n7 c7 (mixL a T (k + 1))) := Lib.hid (Own.drew ((HO.out.set_ k _).cast HMS.out))
          have HB9 : Hid (Below w3.heap.size w3 (wr.setCell ⟨g, k, none⟩ (.int .u8 (bits .xor .u8 x y))).drew) := Lib.hid ((HBW.out.setCell (p := ⟨g, k, none⟩) hgb _).drew)
          clear p1 p2 f1 q1 HMS hml HO HBW
          go_wp2_with fail
          go_roundw
          case rel => exact ⟨k + 1, by omega, by go_num, HO9, HB9⟩
          case measure => simp [intOf]; omega
        · have HO2 : Hid (Own w3.heap.size 5 .u8 wr A7 n7 c7 T) := Lib.hid (by
            have h := HO.out
            rwa [mix_past (by rw [H1.out, HXL.out]) (by rw [H1.out]; omega)] at h)
          clear HO G7
          go_wp2_with fail
          have hBW2 := HBW.out.mono W3.out.size
          have KX := Lib.hid (K3.out.below HBW.out K3.out.lt)
          have R1X := Lib.hid ((R13.out.below hBW2 (Nat.le_refl _)).mono (Nat.le_trans W3.out.size HBW.out.size))
          have R2X := Lib.hid ((R23.out.below hBW2 (Nat.le_refl _)).mono (Nat.le_trans W3.out.size HBW.out.size))
          have WX := Lib.hid (W3.out.trans hBW2)
          have hkx := KX.out.lt
          have hc7 := HO2.out.cap.1
          have HQ1 := Lib.hid (hashL_len h a)
          have HQ2 := Lib.hid (hashL_len h b)
          have HQ3 := Lib.hid (hashL_len h T)
          clear hBW2 K3 R13 R23 W3 HBW hk hlt
          have SH : Hid (∀ (A : Option Addr) (c : Nat) (X : List Int) (v : World), Byt X → X.length = n7 → n7 ≤ c → Rd v.heap.size .u8 v A X → Calls Try.prog 38 #[.agg (cellsL .u8 h), .slice A n7 c] v (RetV (.agg (cellsL .u8 (hashL h X))) v)) := Lib.hid (fun A c X v hX hn hc hr => hash_any A n7 c h X v HH.out hX hn hc hr)
          refine wp_region_mixVB [⟨9, 9, 32, cellsL .u8 (nul 16)⟩, ⟨10, 10, 32, cellsL .u8 (nul 16)⟩, ⟨11, 11, 32, cellsL .u8 (nul 16)⟩] 12 [([0, 1, 3, 4, 6, 7], 2), ([], 5), ([], 8)] (by kernel_rfl) (by kernel_rfl) (by kernel_rfl) (by kernel_rfl) (by kernel_rfl) (by kernel_rfl) (by kernel_rfl) (by kernel_rfl) (by kernel_rfl) ?_ ?_
          · refine ⟨⟨by decide, _, rfl, ?_⟩, ⟨by decide, _, rfl, ?_⟩, ⟨by decide, _, rfl, ?_⟩, trivial⟩
            · exact ⟨rfl, rfl, by kernel_rfl, al16 _ rfl⟩
            · exact ⟨rfl, rfl, by kernel_rfl, al16 _ rfl⟩
            · exact ⟨rfl, rfl, by kernel_rfl, al16 _ rfl⟩
          simp only [pickL, List.map_cons, List.map_nil, List.filterMap_cons, List.filterMap_nil, List.getElem?_cons_succ, List.getElem?_cons_zero]
          refine mixV_cons ?_
          show wpQuiet _ _ _ _ (_ :: _) _
          refine wpQuiet_loadV (o := ⟨some 44, _, _, _, _, _⟩) rfl _ rfl rfl (fun w' hw' => by obtain ⟨r, rfl⟩ := hw'; exact arr_load (KX.out.below r.below hkx) Try.underlying32 sizeE16 HH.out.1.symm) ?_
          simp only [Act.put, List.setIfInBounds_toArray, List.set_cons_zero, List.set_cons_succ]
          show wpQuiet _ _ _ _ (_ :: _) _
          go_big_quiet_step (fail)
          show wpQuiet _ _ _ _ (_ :: _) _
          refine wpQuiet_loadV (o := ⟨some 47, _, _, _, _, _⟩) rfl _ rfl rfl (fun w' hw' => by obtain ⟨r, rfl⟩ := hw'; exact arr_load (KX.out.below r.below hkx) Try.underlying32 sizeE16 HH.out.1.symm) ?_
          simp only [Act.put, List.setIfInBounds_toArray, List.set_cons_zero, List.set_cons_succ]
          show wpQuiet _ _ _ _ (_ :: _) _
          go_big_quiet_step (fail)
          show wpQuiet _ _ _ _ (_ :: _) _
          refine wpQuiet_loadV (o := ⟨some 50, _, _, _, _, _⟩) rfl _ rfl rfl (fun w' hw' => by obtain ⟨r, rfl⟩ := hw'; exact arr_load (KX.out.below r.below hkx) Try.underlying32 sizeE16 HH.out.1.symm) ?_
          simp only [Act.put, List.setIfInBounds_toArray, List.set_cons_zero, List.set_cons_succ]
          show wpQuiet _ _ _ _ (_ :: _) _
          go_big_quiet_step (fail)
          refine wpQuiet_nil ?_
          rintro x0 ⟨r0, rfl⟩
          show wpList _ _ _ [_] _ _
          go_wp2_with fail
          refine Calls.mono (SH.out A1 c1 a _ HA.out H1.out hc1 ((R1X.out.below r0.below (Nat.le_refl _)).mono r0.below.size)) ?_
          rintro e x1 ⟨rfl, hb1⟩
          have X1 := Lib.hid (r0.below.trans (hb1.mono r0.below.size))
          go_wp2_with fail
          refine MixV.bw r0.below r0.below.size hb1 ?_
          clear hb1
          refine mixV_cons ?_
          refine wpQuiet_nil ?_
          rintro x2 ⟨r2, rfl⟩
          have X2 := Lib.hid (X1.out.trans (r2.below.mono X1.out.size))
          show wpList _ _ _ [_] _ _
          go_wp2_with fail
          refine Calls.mono (SH.out A2 c2 b _ HB.out H2.out hc2 ((R2X.out.below X2.out (Nat.le_refl _)).mono X2.out.size)) ?_
          rintro e x3 ⟨rfl, hb3⟩
          have X3 := Lib.hid (X2.out.trans (hb3.mono X2.out.size))
          go_wp2_with fail
          refine MixV.bw r2.below r2.below.size hb3 ?_
          clear hb3
          refine mixV_cons ?_
          refine wpQuiet_nil ?_
          rintro x4 ⟨r4, rfl⟩
          have X4 := Lib.hid (X3.out.trans (r4.below.mono X3.out.size))
          show wpList _ _ _ [_] _ _
          go_wp2_with fail
          refine Calls.mono (SH.out A7 c7 T _ HXB.out HXL.out hc7 ((HO2.out.below X4.out).rd)) ?_
          rintro e x5 ⟨rfl, hb5⟩
          have X5 := Lib.hid (X4.out.trans (hb5.mono X4.out.size))
          go_wp2_with fail
          refine MixV.bw r4.below r4.below.size hb5 ?_
          clear hb5
          refine mixV_nil ?_
          rintro x6 ⟨r6, rfl⟩
          have X6 := Lib.hid (X5.out.trans (r6.below.mono X5.out.size))
          intro γ hγ hd
          obtain ⟨g9, e9, hN9, hB9⟩ := hγ ⟨9, 9, 32, cellsL .u8 (nul 16)⟩ (by simp)
          obtain ⟨g10, e10, hN10, hB10⟩ := hγ ⟨10, 10, 32, cellsL .u8 (nul 16)⟩ (by simp)
          obtain ⟨g11, e11, hN11, hB11⟩ := hγ ⟨11, 11, 32, cellsL .u8 (nul 16)⟩ (by simp)
          simp only at e9 hB9 e10 hB10 e11 hB11
          have hne1 : g9 ≠ g10 := fun e => by
            have := hd ⟨9, 9, 32, cellsL .u8 (nul 16)⟩ (by simp) ⟨10, 10, 32, cellsL .u8 (nul 16)⟩ (by simp) (by simp only; rw [e9, e10, e])
            simp at this
          have hne2 : g9 ≠ g11 := fun e => by
            have := hd ⟨9, 9, 32, cellsL .u8 (nul 16)⟩ (by simp) ⟨11, 11, 32, cellsL .u8 (nul 16)⟩ (by simp) (by simp only; rw [e9, e11, e])
            simp at this
          have hne3 : g10 ≠ g11 := fun e => by
            have := hd ⟨10, 10, 32, cellsL .u8 (nul 16)⟩ (by simp) ⟨11, 11, 32, cellsL .u8 (nul 16)⟩ (by simp) (by simp only; rw [e10, e11, e])
            simp at this
          simp only [putsA, step1, e9, e10, e11, List.drop_succ_cons, List.drop_zero, Act.put, ptr0, List.setIfInBounds_toArray, List.set_cons_zero, List.set_cons_succ]
          rw [HHX.out]
          have HQ4 : Hid ((xaL (hashL h a) (hashL h b)).length = 16) := Lib.hid (by rw [xaL_len (by rw [HQ1.out, HQ2.out]), HQ1.out])
          have HQG : Hid (∀ k, (xaL (hashL h a) (hashL h b)).getD k 0 = xb ((hashL h a).getD k 0) ((hashL h b).getD k 0)) := Lib.hid (fun k => xaL_getD (by rw [HQ1.out, HQ2.out]) k)
          generalize xaL (hashL h a) (hashL h b) = Z at *
          generalize hashL h a = X at *
          generalize hashL h b = Y at *
          obtain ⟨w5, hs5, hz5, hg5⟩ := blk_storeAll (P := Try.prog) (ty := 32) (vs := iv .u8 X) hB9 (by rw [iv_len, HQ1.out, cellsL_size, nul_len]) (iv_one _ _) (by rw [iv_len, HQ1.out]; exact sizeE16)
          obtain ⟨w6, hs6, hz6, hg6⟩ := blk_storeAll (P := Try.prog) (ty := 32) (vs := iv .u8 Y) (Blk.grown hB10 hg5 (by simp; omega)) (by rw [iv_len, HQ2.out, cellsL_size, nul_len]) (iv_one _ _) (by rw [iv_len, HQ2.out]; exact sizeE16)
          obtain ⟨w8, hs8, hz8, hg8⟩ := blk_storeAll (P := Try.prog) (ty := 32) (vs := iv .u8 Z) (Blk.grown (Blk.grown hB11 hg5 (by simp; omega)) hg6 (by simp; omega)) (by rw [iv_len, HQ4.out, cellsL_size, nul_len]) (iv_one _ _) (by rw [iv_len, HQ4.out]; exact sizeE16)
          have S5 := Lib.hid hs5
          have S6 := Lib.hid hs6
          have S8 := Lib.hid hs8
          have P8 : Hid (Arr w8 g9 32 .u8 X) := Lib.hid (Blk.grown (Blk.grown hz5 hg6 (by simp; omega)) hg8 (by simp; omega))
          have Q8 : Hid (Arr w8 g10 32 .u8 Y) := Lib.hid (Blk.grown hz6 hg8 (by simp; omega))
          have Z8 : Hid (Arr w8 g11 32 .u8 Z) := Lib.hid hz8
          have Y5 := X6.out.trans (below_of_only hg5 hN9 X6.out.size)
          have Y6 := Y5.trans (below_of_only hg6 hN10 Y5.size)
          have X8 := Lib.hid (Y6.trans (below_of_only hg8 hN11 Y6.size))
          have W8 := Lib.hid (WX.out.trans (X8.out.mono WX.out.size))
          clear hs5 hz5 hg5 hs6 hz6 hg6 hs8 hz8 hg8 hγ hd e9 e10 e11 hB9 hB10 hB11 X1 X2 X3 X4 X5 X6 X8 WX Y5 Y6 KX R1X R2X HO2 hN9 hN10 hN11 HQ3 SH
          go_wp2_with (first
            | ((with_reducible (show wpList _ _ _ (⟨none, .store 32 _ _, _, _, _, _⟩ :: _) _ _)); refine wpList_storeV (o := ⟨none, .store 32 _ _, _, _, _, _⟩) rfl _ _ rfl rfl rfl S5.out ?_)
            | ((with_reducible (show wpList _ _ _ (⟨none, .store 32 _ _, _, _, _, _⟩ :: _) _ _)); refine wpList_storeV (o := ⟨none, .store 32 _ _, _, _, _, _⟩) rfl _ _ rfl rfl rfl S6.out ?_)
            | ((with_reducible (show wpList _ _ _ (⟨none, .store 32 _ _, _, _, _, _⟩ :: _) _ _)); refine wpList_storeV (o := ⟨none, .store 32 _ _, _, _, _, _⟩) rfl _ _ rfl rfl rfl S8.out ?_))
          refine NoPanic.normal ?_
          clear S5 S6 S8
          go_wp2_with fail
          go_loopw [53] (fun ii wr => ∃ k : Nat, k ≤ 16 ∧ ii = .int .i64 k ∧ Hid (Below w8.heap.size w8 wr)) (fun ii _ => 16 - (intOf ii).toNat)
          case atStart => exact ⟨0, by omega, rfl, Lib.hid (Below.refl _ _)⟩
          case round =>
            obtain ⟨k, hk, rfl, HBW⟩ := hrel
            by_cases hlt : k < 16
            · have c9 : wr.cell? ⟨g9, k, none⟩ = some (.int .u8 (X.getD k 0)) := (P8.out.belowAll HBW.out).cell (by rw [HQ1.out]; exact hlt)
              have c10 : wr.cell? ⟨g10, k, none⟩ = some (.int .u8 (Y.getD k 0)) := (Q8.out.belowAll HBW.out).cell (by rw [HQ2.out]; exact hlt)
              have c11 : wr.cell? ⟨g11, k, none⟩ = some (.int .u8 (Z.getD k 0)) := (Z8.out.belowAll HBW.out).cell (by rw [HQ4.out]; exact hlt)
              rw [HQG.out k] at c11
              have hni : (xb (X.getD k 0) (Y.getD k 0) != bits .xor .u8 (X.getD k 0) (Y.getD k 0)) = false := by simp [xb]
              generalize xb (X.getD k 0) (Y.getD k 0) = z at *
              generalize X.getD k 0 = x at *
              generalize Y.getD k 0 = y at *
              go_wp2_with fail
              go_quiet (fail)
              go_wp2_with fail
              clear c9 c10 c11 hni
              go_roundw
              case rel => exact ⟨k + 1, by omega, by go_num, Lib.hid (below_drewN HBW.out _)⟩
              case measure => simp [intOf]; omega
            · go_wp2_with fail
              go_ret
              exact ⟨rfl, W8.out.trans (HBW.out.mono W8.out.size)⟩
    · have hni : ((n1 : Int) != (n2 : Int)) = true := by
        simp only [bne_iff_ne, ne_eq]
        omega
      go_wp2_with fail
      go_ret
      exact ⟨rfl, W3.out⟩
end Go.Proofs.Ytepkbllcaeceeaa
