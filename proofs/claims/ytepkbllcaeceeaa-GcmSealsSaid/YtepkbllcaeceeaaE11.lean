/- Contracts: aes.Keys, aes.New, the closure add of Cipher.Seal. Conditions: as each theorem states them. -/
import Derived.Test.YtepkbllcaeceeaaE10
namespace Go.Proofs.Ytepkbllcaeceeaa
open Go.RowKit
theorem size78 : (Try.prog.info? 78).map (·.size) = some 256 := by kernel_rfl
theorem size81 : (Try.prog.info? 81).map (·.size) = some 432 := by kernel_rfl
theorem zero78 : Try.zeroCells78.size = 256 := by kernel_rfl
theorem zero40 : Try.zeroCells40.size = 176 := by kernel_rfl
/-- a key's cipher lies in block g: its box, and its columns -/
def Ci (w : World) (g : Nat) (K : List Int) : Prop := Arr w g 81 .u8 (boxL ++ wkL K)
theorem Ci.lt {w : World} {g : Nat} {K : List Int} (h : Ci w g K) : g < w.heap.size := Arr.lt h
theorem Ci.below {w w' : World} {g N : Nat} {K : List Int} (h : Ci w g K) (hb : Below N w w') (hN : g < N) : Ci w' g K := Arr.below h hb hN
theorem Ci.all {w w' : World} {g : Nat} {K : List Int} (h : Ci w g K) (hb : Below w.heap.size w w') : Ci w' g K := Arr.belowAll h hb
theorem Ci.grown {w w' : World} {g : Nat} {K : List Int} {row : Option Nat} (h : Ci w g K) (hb : w.grownBy w' row) (hg : some g ≠ row) : Ci w' g K := Arr.grown h hb hg
theorem Ci.box {w : World} {g : Nat} {K : List Int} (h : Ci w g K) {i : Nat} (hi : i < 256) : w.cell? ⟨g, i, none⟩ = some (.int .u8 (boxL.getD i 0)) := by
  have := Arr.cell h (i := i) (by rw [List.length_append, boxL_len]; omega)
  rwa [append_getDl _ (by rw [boxL_len]; exact hi)] at this
theorem Ci.key {w : World} {g : Nat} {K : List Int} (h : Ci w g K) (hK : Blk16 K) {i : Nat} (hi : i < 176) : w.cell? ⟨g, 256 + i, none⟩ = some (.int .u8 ((wkL K).getD i 0)) := by
  have hW := wkL_len hK
  have := Arr.cell h (i := 256 + i) (by rw [List.length_append, boxL_len, hW]; omega)
  rw [this, List.getD_eq_getElem?_getD, List.getElem?_append_right (by rw [boxL_len]; omega), boxL_len, Nat.add_sub_cancel_left, List.getD_eq_getElem?_getD]
set_option maxRecDepth 100000 in
set_option maxHeartbeats 4000000 in
theorem akeys_any (K : List Int) (w : World) (hK : Blk16 K) : Calls Try.prog 24 #[.agg (cellsL .u8 K)] w fun e w' => e = .returned (.agg (cellsL .u8 (wkL K))) ∧ Below w.heap.size w w' := by
  have HK := Lib.hid hK
  have HKL := Lib.hid hK.1
  have HBL := Lib.hid boxL_len
  have HW := Lib.hid (wkL_len hK)
  have HZ := Lib.hid zero78
  have HZ4 := Lib.hid zero40
  clear hK
  go_enter Try.func24, Try.ntmps24
  go_wp2_with fail
  refine Calls.mono (boxes_any _) ?_
  rintro e w1 ⟨rfl, hb1⟩
  have A1 := Lib.hid ((((Arr.newAt (t := 32) (w := w) (cs := cellsL .u8 K) rfl rfl).alloc (.cells Try.zeroCells40 40))).belowAll hb1)
  have Z1 := Lib.hid ((blk_newAt (w := w.alloc (.cells (cellsL .u8 K) 32)) (cs := Try.zeroCells40) (t := 40) (g := w.heap.size + 1) (by simp)).below hb1 (by simp))
  have B1 := Lib.hid ((((Below.refl w.heap.size w).alloc (Nat.le_refl _) (.cells (cellsL .u8 K) 32)).alloc (by simp) (.cells Try.zeroCells40 40)).trans (hb1.mono (by simp <;> omega)))
  clear hb1
  go_wp2_with (first
    | (((with_reducible (show wpList _ _ _ (⟨none, .store 78 _ _, _, _, _, _⟩ :: _) _ _)); refine wpList_storeArr (o := ⟨none, .store 78 _ _, _, _, _, _⟩) (g := w1.heap.size) (t := 78) (k := .u8) (xs := boxL) (n := 256) rfl _ _ rfl rfl rfl (Blk.new _ _ _) size78 (HBL.out.symm) rfl ?_; intro w5 ha5 hg5; have HA5 := Lib.hid ha5; have HG5 := Lib.hid hg5; clear ha5 hg5); have BW5 := Lib.hid (((Below.refl w1.heap.size w1).alloc (Nat.le_refl _) _).trans (below_of_only HG5.out (Nat.le_refl _) (by simp))); have A5 := Lib.hid (A1.out.belowAll BW5.out); have Z5 := Lib.hid (Z1.out.below BW5.out (Blk.lt Z1.out)); have L5 := Lib.hid (arr_load A5.out Try.underlying32 sizeE16 HKL.out.symm))
    | ((with_reducible (show wpList _ _ _ (⟨some 5, .load _ _, _, _, _, _⟩ :: _) _ _)); refine wpList_loadV (o := ⟨some 5, .load _ _, _, _, _, _⟩) rfl _ rfl rfl (L5.out) ?_))
  refine Calls.mono (keys_any w1.heap.size K _ HK.out (Bx.of_arr HA5.out)) ?_
  rintro e w6 ⟨rfl, hb6⟩
  have Z6 := Lib.hid (Z5.out.below hb6 (Blk.lt Z5.out))
  have B6 := Lib.hid ((B1.out.trans (BW5.out.mono B1.out.size)).trans (hb6.mono (Nat.le_trans B1.out.size BW5.out.size)))
  clear hb6
  generalize hWK : wkL K = W at *
  have HWK := Lib.hid hWK
  clear hWK
  obtain ⟨w7, hs7, hz7, hg7⟩ := blk_storeAll (P := Try.prog) (ty := 40) (vs := iv .u8 W) Z6.out (by rw [iv_len, HW.out, HZ4.out]) (iv_one _ _) (by rw [iv_len, HW.out]; exact size40)
  have S7 := Lib.hid hs7
  have Z7 := Lib.hid hz7
  have B7 := Lib.hid (B6.out.trans (below_of_only hg7 (by omega) B6.out.size))
  clear hs7 hz7 hg7
  go_wp2_with ((with_reducible (show wpList _ _ _ (⟨none, .store 40 _ _, _, _, _, _⟩ :: _) _ _)); refine wpList_storeV (o := ⟨none, .store 40 _ _, _, _, _, _⟩) rfl _ _ rfl rfl rfl (S7.out) ?_)
  refine ret_row rfl rfl Z7.out Try.underlying40 rfl (by rw [List.size_toArray, iv_len, HW.out]; exact size40) rfl ⟨by rw [HWK.out]; rfl, B7.out⟩
/-- a new cipher -/
def NewC (K : List Int) (w : World) (e : Ending) (w' : World) : Prop := ∃ g, e = .returned (.pointer (some ⟨g, 0, none⟩)) ∧ w.heap.size ≤ g ∧ Ci w' g K ∧ Below w.heap.size w w'
theorem built81 : Try.prog.built 81 [(0, .agg (cellsL .u8 boxL))] = some (cellsL .u8 (boxL ++ nul 176)) := by kernel_rfl
theorem ovi_new {B Z W : List Int} (hB : B.length = 256) (hZ : Z.length = 176) (hW : W.length = 176) : (ovl (iv .u8 (B ++ Z)) 256 (iv .u8 W)) = iv .u8 (B ++ W) := by
  rw [← iv_append, ← iv_append]
  have h := over_at (A := iv .u8 B) (B := iv .u8 Z) (C := []) (vs := iv .u8 W) (o := 256) (by rw [iv_len, hB]) (by rw [iv_len, iv_len, hW, hZ])
  simpa using h
set_option maxRecDepth 100000 in
set_option maxHeartbeats 4000000 in
theorem anew_any (K : List Int) (w : World) (hK : Blk16 K) : Calls Try.prog 19 #[.agg (cellsL .u8 K)] w (NewC K w) := by
  have HK := Lib.hid hK
  have HKL := Lib.hid hK.1
  have HBL := Lib.hid boxL_len
  have HW := Lib.hid (wkL_len hK)
  have HBD := Lib.hid built81
  clear hK
  go_enter Try.func19, Try.ntmps19
  go_wp2_with fail
  refine Calls.mono (boxes_any _) ?_
  rintro e w1 ⟨rfl, hb1⟩
  have A1 := Lib.hid ((Arr.newAt (t := 32) (w := w) (cs := cellsL .u8 K) rfl rfl).belowAll hb1)
  have B1 := Lib.hid (((Below.refl w.heap.size w).alloc (Nat.le_refl _) (.cells (cellsL .u8 K) 32)).trans (hb1.mono (by simp)))
  clear hb1
  go_wp2_with ((with_reducible (show wpList _ _ _ (⟨some 5, _, _, _, _, _⟩ :: _) _ _)); refine wpList_buildV (o := ⟨some 5, _, _, _, _, _⟩) rfl _ rfl HBD.out ?_)
  have C2 : Hid (Arr (w1.alloc (.cells (cellsL .u8 (boxL ++ nul 176)) 81)) w1.heap.size 81 .u8 (boxL ++ nul 176)) := Lib.hid (Arr.newAt rfl rfl)
  have A2 := Lib.hid (A1.out.alloc (.cells (cellsL .u8 (boxL ++ nul 176)) 81))
  have B2 := Lib.hid (B1.out.alloc B1.out.size (.cells (cellsL .u8 (boxL ++ nul 176)) 81))
  have hgw := B1.out.size
  have hgl := C2.out.lt
  generalize w1.alloc (.cells (cellsL .u8 (boxL ++ nul 176)) 81) = w2 at *
  generalize w1.heap.size = g at *
  have HBX : Hid (Bx w2 g) := Lib.hid ⟨hgl, fun i hi => by
    have := C2.out.cell (i := i) (by rw [List.length_append, HBL.out]; omega)
    rwa [append_getDl _ (by rw [HBL.out]; exact hi)] at this⟩
  refine wp_region_mixOB w2.heap.size [([0, 1, 2, 3, 4], 5), ([6, 7], 8)] (by kernel_rfl) (by kernel_rfl) (by kernel_rfl) (by kernel_rfl) (by kernel_rfl) ?_
  try (rw [put_none])
  simp only [pickL, List.map_cons, List.map_nil, List.filterMap_cons, List.filterMap_nil, List.getElem?_cons_succ, List.getElem?_cons_zero]
  refine mixO_cons ?_
  repeat (show wpQuiet _ _ _ _ (_ :: _) _; go_big_quiet_step (fail))
  show wpQuiet _ _ _ _ (_ :: _) _
  refine wpQuiet_loadV (o := ⟨some 11, _, _, _, _, _⟩) rfl _ rfl rfl (fun w' hw' => by obtain ⟨r, rfl⟩ := hw'; exact arr_load (A2.out.below r.below A2.out.lt) Try.underlying32 sizeE16 HKL.out.symm) ?_
  simp only [Act.put, List.setIfInBounds_toArray, List.set_cons_zero, List.set_cons_succ]
  refine wpQuiet_nil ?_
  show wpList _ _ _ [_] _ _
  go_wp2_with fail
  refine Calls.mono (keys_any g K _ HK.out HBX.out) ?_
  rintro e w3 ⟨rfl, hb3⟩
  have B3 := Lib.hid ((Below.refl w2.heap.size w2).drew.trans hb3)
  have C3 := Lib.hid (C2.out.belowAll B3.out)
  clear hb3
  obtain ⟨w4, hs4, hz4, hg4⟩ := blk_storeMid (P := Try.prog) (ty := 40) (o := 256) (vs := iv .u8 (wkL K)) (cs := iv .u8 (boxL ++ nul 176)) C3.out (by rw [iv_len, iv_len, List.length_append, HBL.out, HW.out, nul_len]; decide) (iv_one _ _) (by rw [iv_len, HW.out]; exact size40)
  rw [ovi_new HBL.out (nul_len 176) HW.out] at hz4
  have S4 := Lib.hid hs4
  have C4 : Hid (Ci w4 g K) := Lib.hid hz4
  have B4 := Lib.hid ((B2.out.trans (B3.out.mono B2.out.size)).trans (below_of_only hg4 hgw (Nat.le_trans B2.out.size B3.out.size)))
  clear hs4 hz4 hg4
  go_wp2_with fail
  refine MixO.narrowB B3.out B3.out.size ?_
  refine mixO_cons ?_
  repeat (show wpQuiet _ _ _ _ (_ :: _) _; go_big_quiet_step (fail))
  refine wpQuiet_nil ?_
  show wpList _ _ _ [_] _ _
  go_wp2_with ((with_reducible (show wpList _ _ _ (⟨none, .store 40 _ _, _, _, _, _⟩ :: _) _ _)); refine wpList_storeV (o := ⟨none, .store 40 _ _, _, _, _, _⟩) rfl _ _ rfl rfl rfl (S4.out) ?_)
  refine MixO.last ?_
  refine mixO_nil ?_
  refine wpQuiet_nil ?_
  refine NoPanic.normal ?_
  go_wp2_with fail
  go_ret
  exact ⟨g, rfl, hgw, C4.out, B4.out⟩
/-- what the closure captured: the block, the cipher's place -/
def Cap (w : World) (gs gv gc : Nat) (s K : List Int) : Prop := Arr w gs 32 .u8 s ∧ Blk w gv 33 #[.pointer (some ⟨gc, 0, none⟩)] ∧ Ci w gc K ∧ gs ≠ gv ∧ gs ≠ gc
set_option maxRecDepth 100000 in
set_option maxHeartbeats 4000000 in
theorem aadd_any (n gs gv gc : Nat) (s K : List Int) (w : World) (hK : Blk16 K) (hs : Blk16 s) (hn : n < 11) (h : Cap w gs gv gc s K) :
    Calls Try.prog 54 #[.int .i64 n, .pointer (some ⟨gs, 0, none⟩), .pointer (some ⟨gv, 0, none⟩)] w fun e w' => (∃ v, e = .returned v) ∧ Arr w' gs 32 .u8 (addL s (rkey (wkL K) n)) ∧ w.grownBy w' (some gs) := by
  have HK := Lib.hid hK
  have HSL := Lib.hid hs.1
  have HRK := Lib.hid (rkey_ok (wkL_len hK) (wkL_byt hK) hn)
  have HAL := Lib.hid (addL_len hs.1 HRK.out.1)
  have HN := Lib.hid hn
  have HG : Hid (∀ k, k < 16 → (addL s (rkey (wkL K) n)).getD k 0 = bits .xor .u8 (s.getD k 0) ((wkL K).getD (n * 16 + k) 0)) := Lib.hid (fun k hk => by
    rw [addL_getD hs.1 HRK.out.1 hk, rkey_getD _ _ hk, Nat.mul_comm 16 n]; rfl)
  have HC := Lib.hid h
  have hgs := h.1.lt
  clear hK hs h
  generalize addL s (rkey (wkL K) n) = A at *
  go_enter Try.func54, Try.ntmps54
  go_wp2_with fail
  go_loopw [5] (fun jj wr => ∃ k : Nat, k ≤ 16 ∧ jj = .int .i64 k ∧ Hid (Arr wr gs 32 .u8 (mixL s A k)) ∧ Hid (w.grownBy wr (some gs))) (fun jj _ => 16 - (intOf jj).toNat)
  case atStart => exact ⟨0, by omega, rfl, Lib.hid (by rw [mix_zero]; exact HC.out.1), Lib.hid (World.grownBy.refl _ _)⟩
  case round =>
    obtain ⟨k, hk, rfl, HR, HW⟩ := hrel
    by_cases hlt : k < 16
    · have hml : Hid ((mixL s A k).length = 16) := Lib.hid (by rw [mix_len (by rw [HSL.out, HAL.out]) (by rw [HSL.out]; omega), HSL.out])
      have HBV := Lib.hid (Blk.grown HC.out.2.1 HW.out (fun e => HC.out.2.2.2.1 (by injection e with e; exact e.symm)))
      have HCI := Lib.hid (HC.out.2.2.1.grown HW.out (fun e => HC.out.2.2.2.2 (by injection e with e; exact e.symm)))
      have p1 : ∀ r : BW wr.heap.size wr, r.world.cell? ⟨gs, k, none⟩ = some (.int .u8 (s.getD k 0)) := fun r => by
        have := (HR.out.belowAll r.below).cell (i := k) (by rw [hml.out]; exact hlt)
        rwa [mix_get (by rw [HSL.out, HAL.out]) (Nat.le_refl _)] at this
      have p2 : ∀ r : BW wr.heap.size wr, r.world.cell? ⟨gv, 0, none⟩ = some (.pointer (some ⟨gc, 0, none⟩)) := fun r => (Blk.below HBV.out r.below (Blk.lt HBV.out)).cell 0
      have p3 : ∀ r : BW wr.heap.size wr, r.world.cell? ⟨gc, 256 + n * 16 + k, none⟩ = some (.int .u8 ((wkL K).getD (n * 16 + k) 0)) := fun r => by
        have := (HCI.out.all r.below).key HK.out (i := n * 16 + k) (by omega)
        rwa [← Nat.add_assoc] at this
      have f1 := HR.out.frozen k
      have c1 : wr.cell? ⟨gs, k, none⟩ = some (.int .u8 (s.getD k 0)) := p1 ⟨wr, Below.refl _ _⟩
      have HE := Lib.hid (HG.out k hlt)
      have HMS := Lib.hid (mix_set (xs := s) (ys := A) (k := k) (by rw [HSL.out, HAL.out]) (by rw [HSL.out]; exact hlt))
      rw [HE.out] at HMS
      generalize s.getD k 0 = x at *
      generalize (wkL K).getD (n * 16 + k) 0 = y at *
      go_wp2_with fail
      refine wp_region_mixOB wr.heap.size [([0, 1, 2, 3, 4, 5, 6, 7, 8, 9, 10, 11, 12], 13)] (by kernel_rfl) (by kernel_rfl) (by kernel_rfl) (by kernel_rfl) (by kernel_rfl) ?_
      try (rw [put_none])
      simp only [pickL, List.map_cons, List.map_nil, List.filterMap_cons, List.filterMap_nil, List.getElem?_cons_succ, List.getElem?_cons_zero]
      refine mixO_cons ?_
      repeat (show wpQuiet _ _ _ _ (_ :: _) _; go_big_quiet_step (fail))
      refine wpQuiet_nil ?_
      show wpList _ _ _ [_] _ _
      go_wp2_with fail
      refine MixO.last ?_
      refine mixO_nil ?_
      refine wpQuiet_nil ?_
      refine NoPanic.normal ?_
      have HA9 : Hid (Arr (wr.drew.setCell ⟨gs, k, none⟩ (.int .u8 (bits .xor .u8 x y))) gs 32 .u8 (mixL s A (k + 1))) := Lib.hid (Arr.cast (Arr.set (w := wr.drew) HR.out k _) HMS.out)
      have HG9 := Lib.hid (only_setCell (p := ⟨gs, k, none⟩) (only_drew HW.out) (.inl rfl) (.int .u8 (bits .xor .u8 x y)))
      clear p1 p2 p3 f1 c1 HE HMS hml
      go_wp2_with fail
      go_roundw
      case rel => exact ⟨k + 1, by omega, by go_num, HA9, HG9⟩
      case measure => simp [intOf]; omega
    · have HF : Hid (Arr wr gs 32 .u8 A) := Lib.hid (Arr.cast HR.out (by rw [show k = A.length by rw [HAL.out]; omega]; exact mix_full (by rw [HSL.out, HAL.out])))
      go_wp2_with fail
      go_end0
      exact ⟨⟨_, rfl⟩, HF.out, HW.out⟩
end Go.Proofs.Ytepkbllcaeceeaa
