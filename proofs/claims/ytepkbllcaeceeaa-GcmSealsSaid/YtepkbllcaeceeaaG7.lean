/- Contract of gcm: stream.block. Conditions: as each theorem states them. -/
import Derived.Test.YtepkbllcaeceeaaG6
namespace Go.Proofs.Ytepkbllcaeceeaa
open Go.RowKit
/-- a stream's cells -/
def stV (gc : Nat) (nonce : List Int) : List Value := .pointer (some ⟨gc, 0, none⟩) :: iv .u8 nonce
theorem stV_len (gc : Nat) {nonce : List Int} (h : nonce.length = 12) : (stV gc nonce).length = 13 := by unfold stV; rw [List.length_cons, iv_len, h]
theorem stV_cut (gc : Nat) (nonce : List Int) : stV gc nonce = [Value.pointer (some ⟨gc, 0, none⟩)] ++ (iv .u8 nonce ++ []) := by unfold stV; simp
theorem byk_snoc {m n k : Nat} (hk : k < m) : (byk m n).take (k + 1) = (byk m n).take k ++ [((n / 256 ^ (m - 1 - k) % 256 : Nat) : Int)] := by
  rw [take_snoc_getD (by rw [byk_len]; exact hk), byk_getD _ _ _ hk]
set_option maxRecDepth 100000 in
set_option maxHeartbeats 4000000 in
theorem sblock_any (gc i : Nat) (K nonce : List Int) (w : World) (hK : Blk16 K) (hn : nonce.length = 12) (hnb : Byt nonce) (hC : Ci w gc K) :
    Calls Try.prog 71 #[.agg (stV gc nonce).toArray, .int .u32 (i : Int)] w (RetV (.agg (cellsL .u8 (ctrL K nonce i))) w) := by
  have HK := Lib.hid hK
  have HN := Lib.hid hn
  have HI := Lib.hid (ctr_in hn hnb i)
  have HCT : Hid (ctrL K nonce i = aesL K (nonce ++ byk 4 i)) := Lib.hid rfl
  have HC := Lib.hid hC
  have HAO := Lib.hid (aesL_ok hK HI.out).1
  clear hK hn hnb hC
  have A0 : Hid (Blk (((w.alloc (.cells (stV gc nonce).toArray 90)).alloc (.cells (cellsL .u8 (nul 16)) 32)).alloc (.cells (cellsL .u8 (nul 16)) 32)) w.heap.size 90 ([Value.pointer (some ⟨gc, 0, none⟩)] ++ (iv .u8 nonce ++ [])).toArray) := Lib.hid (by rw [← stV_cut]; exact ((Blk.new _ _ _).alloc _).alloc _)
  have A1 : Hid (Arr (((w.alloc (.cells (stV gc nonce).toArray 90)).alloc (.cells (cellsL .u8 (nul 16)) 32)).alloc (.cells (cellsL .u8 (nul 16)) 32)) (w.heap.size + 1) 32 .u8 (nul 16)) := Lib.hid ((Arr.newAt (by simp) rfl).alloc _)
  have A2 : Hid (Arr (((w.alloc (.cells (stV gc nonce).toArray 90)).alloc (.cells (cellsL .u8 (nul 16)) 32)).alloc (.cells (cellsL .u8 (nul 16)) 32)) (w.heap.size + 1 + 1) 32 .u8 (nul 16)) := Lib.hid (Arr.newAt (by simp) rfl)
  have BB : Hid (Below w.heap.size w (((w.alloc (.cells (stV gc nonce).toArray 90)).alloc (.cells (cellsL .u8 (nul 16)) 32)).alloc (.cells (cellsL .u8 (nul 16)) 32))) := Lib.hid ((((Below.refl _ _).alloc (Nat.le_refl _) _).alloc (by simp) _).alloc (by simp <;> omega) _)
  go_enter Try.func71, Try.ntmps71
  go_wp2_with fail
  have hov : ovi (nul 16) 0 (nonce.take 12) = flN 16 nonce := by
    rw [List.take_of_length_le (by rw [HN.out]; exact Nat.le_refl _)]
    unfold ovi flN nul
    rw [List.take_zero, List.nil_append, Nat.zero_add, List.drop_replicate]
  have HOV := Lib.hid hov
  clear hov
  refine wp_region_mixOB w.heap.size [([0, 1, 2], 3)] (by kernel_rfl) (by kernel_rfl) (by kernel_rfl) (by kernel_rfl) (by kernel_rfl) ?_
  try (rw [put_none])
  simp only [pickL, List.map_cons, List.map_nil, List.filterMap_cons, List.filterMap_nil, List.getElem?_cons_succ, List.getElem?_cons_zero]
  refine mixO_cons ?_
  repeat (show wpQuiet _ _ _ _ (_ :: _) _; go_big_quiet_step (fail))
  refine wpQuiet_nil ?_
  show wpList _ _ _ [_] _ _
  go_wp2_with ((with_reducible (show wpList _ _ _ (⟨some 10, _, _, _, _, _⟩ :: _) _ _)); refine wpList_copyAt (o := ⟨some 10, _, _, _, _, _⟩) (g := w.heap.size + 1 + 1) (off := 0) (m := 12) (k := .u8) (xs := nul 16) rfl _ _ rfl Try.underlying28 sizeE1 rfl rfl (Arr.drew A2.out) (Rd.drew (blk_rd A0.out rfl)) HN.out ?_ ?_ ?_; (rfl); (rw [nul_len]; omega); intro w6 ha6 hg6; rw [HOV.out] at ha6; have HA6 := Lib.hid ha6; have HB6 := Lib.hid (BB.out.drew.trans (below_of_only hg6 (by omega) BB.out.drew.size)); have H06 : Hid (Blk w6 w.heap.size 90 ([Value.pointer (some ⟨gc, 0, none⟩)] ++ (iv .u8 nonce ++ [])).toArray) := Lib.hid (Blk.grown (Blk.drew A0.out) hg6 (by simp <;> omega)); have H16 : Hid (Arr w6 (w.heap.size + 1) 32 .u8 (nul 16)) := Lib.hid (Arr.grown (Arr.drew A1.out) hg6 (by simp <;> omega)); clear ha6 hg6)
  refine MixO.last ?_
  refine mixO_nil ?_
  refine wpQuiet_nil ?_
  refine NoPanic.normal ?_
  clear A0 A1 A2 BB HOV
  have HZ6 : Hid (Arr w6 (w.heap.size + 1 + 1) 32 .u8 (flN 16 (nonce ++ (byk 4 i).take 0))) := Lib.hid (by rw [List.take_zero, List.append_nil]; exact HA6.out)
  clear HA6
  go_wp2_with fail
  go_loopw [11] (fun ii wr => ∃ k : Nat, k ≤ 4 ∧ ii = .int .i64 k ∧ Hid (Arr wr (w.heap.size + 1 + 1) 32 .u8 (flN 16 (nonce ++ (byk 4 i).take k))) ∧ Hid (Blk wr w.heap.size 90 ([Value.pointer (some ⟨gc, 0, none⟩)] ++ (iv .u8 nonce ++ [])).toArray) ∧ Hid (Arr wr (w.heap.size + 1) 32 .u8 (nul 16)) ∧ Hid (Below w.heap.size w wr)) (fun ii _ => 4 - (intOf ii).toNat)
  case atStart => exact ⟨0, by omega, rfl, HZ6, H06, H16, HB6⟩
  case round =>
    clear HZ6 H06 H16 HB6
    obtain ⟨k, hk, rfl, HZ, H0, H1, HB⟩ := hrel
    by_cases hlt : k < 4
    · have hfl : Hid ((flN 16 (nonce ++ (byk 4 i).take k)).length = 16) := Lib.hid (flN_len (by rw [List.length_append, List.length_take, byk_len, HN.out]; omega))
      have hll : (nonce ++ (byk 4 i).take k).length = 12 + k := by rw [List.length_append, List.length_take, byk_len, HN.out]; omega
      have HSF := set_flN (N := 16) (xs := nonce ++ (byk 4 i).take k) ((i / 256 ^ (3 - k) % 256 : Nat) : Int) (by rw [hll]; omega)
      rw [hll, List.append_assoc, ← byk_snoc hlt] at HSF
      have HS9 := Lib.hid HSF
      clear HSF hll
      have c1 := HZ.out.cell (i := 12 + k) (by rw [hfl.out]; omega)
      have f1 := HZ.out.frozen (12 + k)
      have e1 : (12 + (k : Int)).toNat = 12 + k := by omega
      have HV : Hid ((i : Int) / 2 ^ (24 - 8 * k) % 256 = ((i / 256 ^ (3 - k) % 256 : Nat) : Int)) := Lib.hid (by
        rw [castdiv, pow256_2, show 8 * (3 - k) = 24 - 8 * k by omega]; rfl)
      generalize (flN 16 (nonce ++ (byk 4 i).take k)).getD (12 + k) 0 = old at *
      go_wp2_with fail
      rw [HV.out]
      go_roundw
      case rel => exact ⟨k + 1, by omega, by go_num, Lib.hid (Arr.cast (HZ.out.set (12 + k) _) HS9.out), Lib.hid (H0.out.far (by simp <;> omega) _), Lib.hid (H1.out.far (by simp <;> omega) _), Lib.hid (HB.out.setCell (by simp <;> omega) _)⟩
      case measure => simp [intOf]; omega
    · have HZ2 : Hid (Arr wr (w.heap.size + 1 + 1) 32 .u8 (nonce ++ byk 4 i)) := Lib.hid (Arr.cast HZ.out (by
        rw [List.take_of_length_le (l := byk 4 i) (by rw [byk_len]; omega), flN_full HI.out.1]))
      have L26 := Lib.hid (arr_load HZ2.out Try.underlying32 sizeE16 HI.out.1.symm)
      have c0 : wr.cell? ⟨w.heap.size, 0, none⟩ = some (.pointer (some ⟨gc, 0, none⟩)) := by rw [Blk.cell H0.out 0]; rfl
      clear HZ HZ2 H0
      go_wp2_with ((with_reducible (show wpList _ _ _ (⟨some 26, .load _ _, _, _, _, _⟩ :: _) _ _)); refine wpList_loadV (o := ⟨some 26, .load _ _, _, _, _, _⟩) rfl _ rfl rfl (L26.out) ?_)
      refine Calls.mono (aseal_any gc K (nonce ++ byk 4 i) _ HK.out HI.out (HC.out.below HB.out HC.out.lt)) ?_
      rintro e w9 ⟨rfl, hb9⟩
      have H19 := Lib.hid (H1.out.belowAll hb9)
      have HB9 := Lib.hid (HB.out.trans (hb9.mono HB.out.size))
      obtain ⟨w8, hs8, hz8, hg8⟩ := blk_storeAll (P := Try.prog) (ty := 32) (vs := iv .u8 (aesL K (nonce ++ byk 4 i))) H19.out (by rw [iv_len, HAO.out, List.size_toArray, List.length_map, nul_len]) (iv_one _ _) (by rw [iv_len, HAO.out]; exact sizeE16)
      have S8 := Lib.hid hs8
      have Z8 := Lib.hid hz8
      have B8 := Lib.hid (HB9.out.trans (below_of_only hg8 (by omega) HB9.out.size))
      clear hs8 hz8 hg8 hb9 H1 HB H19 c0 L26
      go_wp2_with ((with_reducible (show wpList _ _ _ (⟨none, .store 32 _ _, _, _, _, _⟩ :: _) _ _)); refine wpList_storeV (o := ⟨none, .store 32 _ _, _, _, _, _⟩) rfl _ _ rfl rfl rfl (S8.out) ?_)
      refine ret_row rfl rfl Z8.out Try.underlying32 rfl (by rw [List.size_toArray, iv_len, HAO.out]; exact sizeE16) rfl ⟨by rw [HCT.out]; rfl, B8.out⟩
end Go.Proofs.Ytepkbllcaeceeaa
