/- Contracts: the cipher that is none; the law's own known of layer 8. Conditions: as each theorem states them. -/
import Derived.Test.YtepkbllcaeceeaaE12
import Derived.Test.YtepkbllcaeceeaaQP
namespace Go.Proofs.Ytepkbllcaeceeaa
open Go.RowKit
set_option maxRecDepth 100000 in
theorem aseal_nil (s : List Int) (w : World) (hs : s.length = 16) : Calls Try.prog 20 #[.pointer none, .agg (cellsL .u8 s)] w (RetV (.agg (cellsL .u8 (nul 16))) w) := by
  have HS := Lib.hid hs
  clear hs
  have HB : Hid (Try.prog.built 32 [] = some (cellsL .u8 (nul 16))) := Lib.hid (by kernel_rfl)
  have Z3 : Hid (Blk (((w.alloc (.cells #[.pointer none] 33)).alloc (.cells (cellsL .u8 s) 32)).alloc (.cells (cellsL .u8 (nul 16)) 32)) (w.heap.size + 1 + 1) 32 (cellsL .u8 (nul 16))) := Lib.hid (blk_newAt (by simp))
  have B3 : Hid (Below w.heap.size w (((w.alloc (.cells #[.pointer none] 33)).alloc (.cells (cellsL .u8 s) 32)).alloc (.cells (cellsL .u8 (nul 16)) 32))) := Lib.hid ((((Below.refl _ _).alloc (Nat.le_refl _) _).alloc (by simp) _).alloc (by simp <;> omega) _)
  obtain ⟨w8, hs8, hz8, hg8⟩ := blk_storeAll (P := Try.prog) (ty := 32) (vs := iv .u8 (nul 16)) Z3.out (by rw [iv_len, nul_len, cellsL_size, nul_len]) (iv_one _ _) (by rw [iv_len, nul_len]; exact sizeE16)
  have S8 := Lib.hid hs8
  have K8 := Lib.hid hz8
  have B8 := Lib.hid (B3.out.trans (below_of_only hg8 (by omega) (by simp <;> omega)))
  clear hs8 hz8 hg8
  go_enter Try.func20, Try.ntmps20
  go_wp2_with (first
    | ((with_reducible (show wpList _ _ _ (⟨some 13, _, _, _, _, _⟩ :: _) _ _)); refine wpList_buildV (o := ⟨some 13, _, _, _, _, _⟩) rfl _ rfl HB.out ?_)
    | ((with_reducible (show wpList _ _ _ (⟨none, .store 32 _ _, _, _, _, _⟩ :: _) _ _)); refine wpList_storeV (o := ⟨none, .store 32 _ _, _, _, _, _⟩) rfl _ _ rfl rfl rfl (S8.out) ?_))
  refine ret_row rfl rfl K8.out Try.underlying32 rfl (by rw [List.size_toArray, iv_len, nul_len]; exact sizeE16) rfl ⟨rfl, B8.out⟩
def keyX : List Int := [0, 1, 2, 3, 4, 5, 6, 7, 8, 9, 10, 11, 12, 13, 14, 15]
def blkX : List Int := [0, 17, 34, 51, 68, 85, 102, 119, 136, 153, 170, 187, 204, 221, 238, 255]
def outX : List Int := [105, 196, 224, 216, 106, 123, 4, 48, 216, 205, 183, 128, 112, 180, 197, 90]
theorem keyX_ok : Blk16 keyX := ⟨rfl, by intro x hx; simp [keyX] at hx; omega⟩
theorem blkX_ok : Blk16 blkX := ⟨rfl, by intro x hx; simp [blkX] at hx; omega⟩
theorem outX_eq : aesL keyX blkX = outX := aes_known
theorem outX_str : strOfNums outX = ⟨#[105, 196, 224, 216, 106, 123, 4, 48, 216, 205, 183, 128, 112, 180, 197, 90]⟩ := by kernel_rfl
theorem keyX_at : ∀ k, k < 16 → keyX.getD k 0 = (k : Int) := by decide
theorem blkX_at : ∀ k, k < 16 → blkX.getD k 0 = 17 * (k : Int) := by decide
theorem elB8 : ElT Try.prog 28 5 .u8 1 := ⟨Try.underlying28, Try.underlying5, by kernel_rfl, by decide⟩
theorem al16 (o : Oper) (ho : o.op = .alloc 32) (ρ : Operand → Value) (w : World) : (execOp ρ o).run Try.prog w = .ok (.value (ptr0 w.heap.size)) (w.alloc (.cells (cellsL .u8 (nul 16)) 32)) := by
  obtain ⟨d, op, ty, p, af, g⟩ := o
  simp only at ho
  subst ho
  have h : ∀ w, (zeroValue 32).run Try.prog w = .ok (.agg (cellsL .u8 (nul 16))) w := fun w => by kernel_rfl
  unfold execOp
  simp [Instr.alloc, h, go_sem]
  rfl
theorem subX : sub 0 = 99 ∧ sub 83 = 237 ∧ sub 255 = 22 := boxL_known
theorem eql16E {X Y : List Int} (hX : X.length = 16) (hY : Y.length = 16) (hbX : Byt X) (hbY : Byt Y) (w : World) : (binOp .eql 32 (.agg (cellsL .u8 X)) (.agg (cellsL .u8 Y))).run Try.prog w = .ok (.bool (decide (X = Y))) w :=
  eql_bytes Try.underlying32 Try.underlying5 elB8.size hbX hbY hX.symm hY.symm w
theorem nul_byt (n : Nat) : Byt (nul n) := fun x hx => by have := (List.mem_replicate.1 hx).2; omega
theorem conv_nE {B : Nat} {w : World} {A : Option Addr} {xs : List Int} {n : Nat} (hr : Rd B .u8 w A xs) (hn : xs.length = n) (c : Nat) : (convert 28 9 (.slice A n c)).run Try.prog w = .ok (.string (strOfNums xs)) w := by
  subst hn; exact conv_rd elB8 Try.underlying9 hr c
set_option maxRecDepth 100000 in
set_option maxHeartbeats 8000000 in
theorem known08_any (w : World) : Calls Try.prog 18 #[] w fun e w' => e = .returned (.bool true) ∧ Below w.heap.size w w' := by
  go_enter Try.func18, Try.ntmps18
  go_wp2_with fail
  have A0 : Hid (Arr ((w.alloc (.cells (cellsL .u8 (nul 16)) 32)).alloc (.cells (cellsL .u8 (nul 16)) 32)) w.heap.size 32 .u8 (fil keyX 0)) := Lib.hid (by rw [fil_zero]; exact (Arr.newAt rfl rfl).alloc _)
  have A1 : Hid (Arr ((w.alloc (.cells (cellsL .u8 (nul 16)) 32)).alloc (.cells (cellsL .u8 (nul 16)) 32)) (w.heap.size + 1) 32 .u8 (fil blkX 0)) := Lib.hid (by rw [fil_zero]; exact Arr.newAt (by simp) rfl)
  have BB : Hid (Below w.heap.size w ((w.alloc (.cells (cellsL .u8 (nul 16)) 32)).alloc (.cells (cellsL .u8 (nul 16)) 32))) := Lib.hid (((Below.refl _ _).alloc (Nat.le_refl _) _).alloc (by simp) _)
  go_loopw [6] (fun jj wr => ∃ k : Nat, k ≤ 16 ∧ jj = .int .i64 k ∧ Hid (Arr wr w.heap.size 32 .u8 (fil keyX k)) ∧ Hid (Arr wr (w.heap.size + 1) 32 .u8 (fil blkX k)) ∧ Hid (Below w.heap.size w wr)) (fun jj _ => 16 - (intOf jj).toNat)
  case atStart => exact ⟨0, by omega, rfl, A0, A1, BB⟩
  case round =>
    clear A0 A1 BB
    obtain ⟨k, hk, rfl, HA, HC, HB⟩ := hrel
    by_cases hlt : k < 16
    · have hl1 : Hid ((fil keyX k).length = 16) := Lib.hid (fil_len _ _)
      have hl2 : Hid ((fil blkX k).length = 16) := Lib.hid (fil_len _ _)
      have c1 := HA.out.cell (i := k) (by rw [hl1.out]; exact hlt)
      have f1 := HA.out.frozen k
      have c2 := HC.out.cell (i := k) (by rw [hl2.out]; exact hlt)
      have f2 := HC.out.frozen k
      have M1 := Lib.hid (fil_set (xs := keyX) (k := k) hlt)
      have M2 := Lib.hid (fil_set (xs := blkX) (k := k) hlt)
      rw [keyX_at k hlt] at M1
      rw [blkX_at k hlt] at M2
      generalize (fil keyX k).getD k 0 = o1 at *
      generalize (fil blkX k).getD k 0 = o2 at *
      go_wp2_with fail
      go_roundw
      case rel => exact ⟨k + 1, by omega, by go_num, Lib.hid (Arr.far (Arr.cast (HA.out.set k _) M1.out) (by simp) _), Lib.hid (Arr.cast ((HC.out.far (p := ⟨w.heap.size, k, none⟩) (by simp) _).set k _) M2.out), Lib.hid ((HB.out.setCell (by simp) _).setCell (by simp) _)⟩
      case measure => simp [intOf]; omega
    · have hk16 : k = 16 := by omega
      have HA2 : Hid (Arr wr w.heap.size 32 .u8 keyX) := Lib.hid (Arr.cast HA.out (by rw [hk16]; exact fil_full keyX))
      have HC2 : Hid (Arr wr (w.heap.size + 1) 32 .u8 blkX) := Lib.hid (Arr.cast HC.out (by rw [hk16]; exact fil_full blkX))
      clear HA HC hk16
      have hg0 := HA2.out.lt
      have hg1 := HC2.out.lt
      go_wp2_with fail
      refine wp_region_mixVB [⟨4, 4, 32, cellsL .u8 (nul 16)⟩] 5 [([0, 2], 1), ([], 3)] (by kernel_rfl) (by kernel_rfl) (by kernel_rfl) (by kernel_rfl) (by kernel_rfl) (by kernel_rfl) (by kernel_rfl) (by kernel_rfl) (by kernel_rfl) ?_ ?_
      · refine ⟨⟨by decide, _, rfl, ?_⟩, trivial⟩
        exact ⟨rfl, rfl, by kernel_rfl, al16 _ rfl⟩
      simp only [pickL, List.map_cons, List.map_nil, List.filterMap_cons, List.filterMap_nil, List.getElem?_cons_succ, List.getElem?_cons_zero]
      refine mixV_cons ?_
      show wpQuiet _ _ _ _ (_ :: _) _
      refine wpQuiet_loadV (o := ⟨some 19, _, _, _, _, _⟩) rfl _ rfl rfl (fun w' hw' => by obtain ⟨r, rfl⟩ := hw'; exact arr_load (HA2.out.below r.below hg0) Try.underlying32 sizeE16 rfl) ?_
      simp only [Act.put, List.setIfInBounds_toArray, List.set_cons_zero, List.set_cons_succ]
      show wpQuiet _ _ _ _ (_ :: _) _
      refine wpQuiet_loadV (o := ⟨some 21, _, _, _, _, _⟩) rfl _ rfl rfl (fun w' hw' => by obtain ⟨r, rfl⟩ := hw'; exact arr_load (HC2.out.below r.below hg1) Try.underlying32 sizeE16 rfl) ?_
      simp only [Act.put, List.setIfInBounds_toArray, List.set_cons_zero, List.set_cons_succ]
      refine wpQuiet_nil ?_
      rintro x0 ⟨r0, rfl⟩
      show wpList _ _ _ [_] _ _
      go_wp2_with fail
      refine Calls.mono (anew_any keyX _ keyX_ok) ?_
      rintro e x1 ⟨g1, rfl, hg1', hc1, hb1⟩
      have C1 := Lib.hid hc1
      have X1 := Lib.hid (r0.below.trans (hb1.mono r0.below.size))
      clear hc1
      go_wp2_with fail
      refine MixV.bw r0.below r0.below.size hb1 ?_
      clear hb1 hg1'
      refine mixV_cons ?_
      refine wpQuiet_nil ?_
      rintro x2 ⟨r2, rfl⟩
      show wpList _ _ _ [_] _ _
      go_wp2_with fail
      refine Calls.mono (aseal_any g1 keyX blkX _ keyX_ok blkX_ok (C1.out.all r2.below)) ?_
      rintro e x3 ⟨rfl, hb3⟩
      have X2 := Lib.hid (X1.out.trans (r2.below.mono X1.out.size))
      have X3 := Lib.hid (X2.out.trans (hb3.mono X2.out.size))
      rw [outX_eq]
      go_wp2_with fail
      refine MixV.bw r2.below r2.below.size hb3 ?_
      refine mixV_nil ?_
      rintro x4 ⟨r4, rfl⟩
      intro γ hγ hd
      obtain ⟨g4, e4, hN4, hB4⟩ := hγ _ (List.mem_cons_self ..)
      simp only at e4 hB4
      simp only [putsA, step1, e4, List.drop_succ_cons, List.drop_zero, Act.put, ptr0, List.setIfInBounds_toArray, List.set_cons_zero, List.set_cons_succ]
      have X4 := Lib.hid (X3.out.trans (r4.below.mono X3.out.size))
      have C4 := Lib.hid (HC2.out.below X4.out hg1)
      have Z4 := Lib.hid hB4
      have HBW := HB.out.size
      have S4 := Lib.hid outX_str
      have O4 : Hid (outX.length = 16) := Lib.hid rfl
      have OB : Hid (Byt outX) := Lib.hid (by rw [← outX_eq]; exact (aesL_ok keyX_ok blkX_ok).2)
      have hne : w.heap.size + 1 ≠ g4 := by omega
      clear hB4 hb3 hγ hd e4 C1 HC2 HA2
      go_wp2_with ((with_reducible (show wpList _ _ _ (⟨none, .store 32 _ _, _, _, _, _⟩ :: _) _ _)); refine wpList_storeArr (o := ⟨none, .store 32 _ _, _, _, _, _⟩) (g := g4) (t := 32) (k := .u8) (xs := outX) (n := 16) rfl _ _ rfl rfl rfl Z4.out sizeE16 rfl rfl ?_; intro w5 ha5 hg5; have A5 := Lib.hid ha5; have G5 := Lib.hid hg5; clear ha5 hg5)
      refine NoPanic.normal ?_
      have C5 := Lib.hid (C4.out.grown G5.out (by simp; omega))
      have B5 := Lib.hid (HB.out.trans ((X4.out.trans (below_of_only G5.out hN4 X4.out.size)).mono HBW))
      have v1 := conv_nE A5.out.rd O4.out 16
      rw [S4.out] at v1
      go_wp2_with fail
      clear v1
      refine Calls.mono (sub_any 0 _ ⟨by decide, by decide⟩) ?_
      rintro e x6 ⟨rfl, hb6⟩
      rw [subX.1]
      have B6 := Lib.hid (B5.out.trans (hb6.mono B5.out.size))
      have C6 := Lib.hid (C5.out.belowAll hb6)
      clear hb6
      go_wp2_with fail
      refine Calls.mono (sub_any 83 _ ⟨by decide, by decide⟩) ?_
      rintro e x7 ⟨rfl, hb7⟩
      rw [subX.2.1]
      have B7 := Lib.hid (B6.out.trans (hb7.mono B6.out.size))
      have C7 := Lib.hid (C6.out.belowAll hb7)
      clear hb7
      go_wp2_with fail
      refine Calls.mono (sub_any 255 _ ⟨by decide, by decide⟩) ?_
      rintro e x8 ⟨rfl, hb8⟩
      rw [subX.2.2]
      have B8 := Lib.hid (B7.out.trans (hb8.mono B7.out.size))
      have C8 := Lib.hid (C7.out.belowAll hb8)
      have L8 := Lib.hid (arr_load C8.out Try.underlying32 sizeE16 rfl)
      clear hb8
      go_wp2_with ((with_reducible (show wpList _ _ _ (⟨some 40, _, _, _, _, _⟩ :: _) _ _)); refine wpList_unguard rfl ?_; refine wpList_loadV (o := ⟨some 40, _, _, _, _, _⟩) rfl _ rfl rfl L8.out ?_)
      refine Calls.mono (aseal_nil blkX _ rfl) ?_
      rintro e x9 ⟨rfl, hb9⟩
      have B9 := Lib.hid (B8.out.trans (hb9.mono B8.out.size))
      have HBD : Hid (Try.prog.built 32 [] = some (cellsL .u8 (nul 16))) := Lib.hid (by kernel_rfl)
      have q9 : ∀ W, (binOp .eql 32 (.agg (cellsL .u8 (nul 16))) (.agg (cellsL .u8 (nul 16)))).run Try.prog W = .ok (.bool true) W := fun W => by rw [eql16E (nul_len 16) (nul_len 16) (nul_byt 16) (nul_byt 16)]; simp
      clear hb9
      go_wp2_with ((with_reducible (show wpList _ _ _ (⟨some 42, _, _, _, _, _⟩ :: _) _ _)); refine wpList_unguard rfl ?_; refine wpList_buildV (o := ⟨some 42, _, _, _, _, _⟩) rfl _ rfl HBD.out ?_)
      go_ret
      exact ⟨rfl, B9.out⟩
end Go.Proofs.Ytepkbllcaeceeaa
