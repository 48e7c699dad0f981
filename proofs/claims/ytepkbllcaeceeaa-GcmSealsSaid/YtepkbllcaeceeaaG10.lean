/- Contract of gcm: stream.tag. Conditions: as each theorem states them. -/
import Derived.Test.YtepkbllcaeceeaaG9
namespace Go.Proofs.Ytepkbllcaeceeaa
open Go.RowKit
theorem whL_mod (L : List Int) : (whL L).length % 16 = 0 := by unfold whL; rw [List.length_append, List.length_replicate]; omega
theorem whL_len (L : List Int) : (whL L).length ≤ L.length + 15 := by unfold whL; rw [List.length_append, List.length_replicate]; omega
theorem whL_app {X : List Int} (Y : List Int) (h : X.length % 16 = 0) : whL (X ++ Y) = X ++ whL Y := by
  unfold whL
  rw [List.append_assoc, List.length_append, show (X.length + Y.length) % 16 = Y.length % 16 by omega]
/-- the frame of tag: the stream, the result, the variable -/
def GF (w : World) (gc : Nat) (nonce : List Int) (g7 : Nat) (A : Option Addr) (n c : Nat) (L : List Int) (wr : World) : Prop :=
  VA (w.heap.size + 1 + 1) g7 A n c L wr ∧ Blk wr w.heap.size 90 (stV gc nonce).toArray ∧ Arr wr (w.heap.size + 1) 32 .u8 (nul 16) ∧ Below w.heap.size w wr
section
variable {w wr w' : World} {gc g7 n c : Nat} {nonce L : List Int} {A : Option Addr}
theorem GF.step {A' : Option Addr} {n' c' : Nat} {L' : List Int} (h : GF w gc nonce g7 A n c L wr) (hv : VA (w.heap.size + 1 + 1) g7 A' n' c' L' w') (hb : Below (w.heap.size + 1 + 1) wr w') : GF w gc nonce g7 A' n' c' L' w' :=
  ⟨hv, h.2.1.below hb (by omega), h.2.2.1.below hb (by omega), h.2.2.2.trans (hb.mono (by omega))⟩
theorem GF.below (h : GF w gc nonce g7 A n c L wr) (hb : Below wr.heap.size wr w') : GF w gc nonce g7 A n c L w' :=
  ⟨h.1.below hb, h.2.1.below hb (Blk.lt h.2.1), h.2.2.1.belowAll hb, h.2.2.2.trans (hb.mono h.2.2.2.size)⟩
theorem GF.size (h : GF w gc nonce g7 A n c L wr) : w.heap.size + 1 + 1 ≤ wr.heap.size := Nat.le_of_lt (Nat.lt_of_le_of_lt h.1.2.2.2 (Blk.lt h.1.1))
end
def ezL (n1 n2 : Nat) (Z : List Int) : Nat → List Int
  | 0 => Z
  | 1 => Z ++ byk 8 (8 * n1)
  | _ => Z ++ byk 8 (8 * n1) ++ byk 8 (8 * n2)
theorem ez_step (n1 n2 : Nat) (Z : List Int) {r : Nat} (hr : r < 2) (h1 : n1 ≤ 5000) (h2 : n2 ≤ 5000) : ∃ N : Nat, N ≤ 5000 ∧ ezL n1 n2 Z (r + 1) = ezL n1 n2 Z r ++ byk 8 (8 * N) ∧ ∀ v : World, (Instr.index 101 (.agg #[.int .i64 (n1 : Int), .int .i64 (n2 : Int)]) (.int .i64 (r : Int))).run Try.prog v = .ok (.int .i64 (N : Int)) v := by
  rcases (show r = 0 ∨ r = 1 by omega) with rfl | rfl
  · refine ⟨n1, h1, rfl, fun v => ?_⟩
    simp [Instr.index, run_underlying Try.underlying101, asIntOf, part, isAgg, run_underlying Try.underlying3]
  · refine ⟨n2, h2, rfl, fun v => ?_⟩
    simp [Instr.index, run_underlying Try.underlying101, asIntOf, part, isAgg, run_underlying Try.underlying3]
theorem ez_len (n1 n2 : Nat) (Z : List Int) (r : Nat) : (ezL n1 n2 Z r).length ≤ Z.length + 16 := by
  rcases r with _ | _ | r <;> simp [ezL, byk_len] <;> omega
set_option maxRecDepth 100000 in
set_option maxHeartbeats 8000000 in
theorem stag_any (gc n1 c1 n2 c2 : Nat) (A1 A2 : Option Addr) (K nonce aad text : List Int) (w : World) (hK : Blk16 K) (hn : nonce.length = 12) (hnb : Byt nonce) (hC : Ci w gc K) (h1 : aad.length = n1) (h2 : text.length = n2) (hb1 : Byt aad) (hb2 : Byt text)
    (hl1 : n1 ≤ 5000) (hl2 : n2 ≤ 5000) (hr1 : Rd w.heap.size .u8 w A1 aad) (hr2 : Rd w.heap.size .u8 w A2 text) :
    Calls Try.prog 63 #[.agg (stV gc nonce).toArray, .slice A1 n1 c1, .slice A2 n2 c2] w (RetV (.agg (cellsL .u8 (tagL K nonce aad text))) w) := by
  have HK := Lib.hid hK
  have HN := Lib.hid hn
  have HNB := Lib.hid hnb
  have HC := Lib.hid hC
  have HL1 := Lib.hid h1
  have HL2 := Lib.hid h2
  have HR2 := Lib.hid hr2
  have HFB := Lib.hid (fllL_byt hb1 hb2)
  have HFE : Hid (fllL aad text = (whL aad ++ whL text) ++ (byk 8 (8 * n1) ++ byk 8 (8 * n2))) := Lib.hid (by unfold fllL; rw [h1, h2])
  have HTE : Hid (tagL K nonce aad text = xaL (hashL (aesL K (nul 16)) (fllL aad text)) (ctrL K nonce 1)) := Lib.hid rfl
  have HW1 := Lib.hid (whL_mod aad)
  have HW2 : Hid ((whL aad).length ≤ 5015) := Lib.hid (by have := whL_len aad; omega)
  have HW3 : Hid ((whL text).length ≤ 5015) := Lib.hid (by have := whL_len text; omega)
  have HCO := Lib.hid (ctrL_ok hK hn hnb 1)
  have HAO := Lib.hid (aesL_ok hK z16_ok)
  have B0 : Hid (Below w.heap.size w ((w.alloc (.cells (stV gc nonce).toArray 90)).alloc (.cells (cellsL .u8 (nul 16)) 32))) := Lib.hid (((Below.refl _ _).alloc (Nat.le_refl _) _).alloc (by simp) _)
  have S0 : Hid (Blk ((w.alloc (.cells (stV gc nonce).toArray 90)).alloc (.cells (cellsL .u8 (nul 16)) 32)) w.heap.size 90 (stV gc nonce).toArray) := Lib.hid ((Blk.new _ _ _).alloc _)
  have R0 : Hid (Arr ((w.alloc (.cells (stV gc nonce).toArray 90)).alloc (.cells (cellsL .u8 (nul 16)) 32)) (w.heap.size + 1) 32 .u8 (nul 16)) := Lib.hid (Arr.newAt (by simp) rfl)
  have HR1 := Lib.hid (hr1.below B0.out (Nat.le_refl _))
  clear hK hn hnb hC h1 h2 hr1 hr2 hb1 hb2
  go_enter Try.func63, Try.ntmps63
  go_wp2_with (at_builtin; refine wpList_app (o := ⟨some 16, _, _, _, _, _⟩) elB8 rfl _ _ rfl rfl rfl (Own.nil (w.heap.size + 1 + 1) _ _ _) HR1.out HL1.out.symm ?_ ?_ ?_; (rw [HL1.out]; simp <;> omega); (simp); intro A3 n3 c3 w3 q3; have H3 : Hid (Own (w.heap.size + 1 + 1) 5 .u8 w3 A3 n3 c3 aad) := Lib.hid q3.1; have B3 := Lib.hid q3.2.2.1; clear q3)
  have hs3 : w.heap.size + 1 + 1 ≤ w3.heap.size := by have := B3.out.size; simp at this; omega
  have G0 : Hid (GF w gc nonce w3.heap.size A3 n3 c3 aad (w3.alloc (.cells #[.slice A3 n3 c3] 28))) := Lib.hid
    ⟨⟨Blk.new _ _ _, H3.out.alloc _, fun ad e => by have := (H3.out.block ad e).2; omega, hs3⟩, (S0.out.below B3.out (by omega)).alloc _, (R0.out.below B3.out (by omega)).alloc _, (B0.out.trans (B3.out.mono (by omega))).alloc (by omega) _⟩
  clear H3 B0 S0 R0 B3 HR1 hs3
  generalize w3.heap.size = g7 at *
  generalize w3.alloc (.cells #[.slice A3 n3 c3] 28) = w4 at *
  refine Calls.mono (fill_any _ g7 n3 c3 A3 aad _ G0.out.1 (by rw [HL1.out]; omega)) ?_
  rintro e w5 ⟨⟨v5, rfl⟩, A5, n5, c5, hv5, hb5⟩
  have G5 := Lib.hid (G0.out.step hv5 hb5)
  clear hv5 hb5 G0
  have k5 := G5.out.1.cell
  go_wp2_with (at_builtin; refine wpList_app (o := ⟨some 22, _, _, _, _, _⟩) elB8 rfl _ _ rfl rfl rfl G5.out.1.2.1 (HR2.out.below G5.out.2.2.2 (Nat.le_refl _)) HL2.out.symm ?_ ?_ ?_; (rw [HL2.out]; have := HW2.out; omega); (exact G5.out.size); intro A9 n9 c9 w9 q9; have V9 := Lib.hid (G5.out.1.put q9); have K9 := G5.out.1.keep q9; have k9 : w9.cell? ⟨g7, 0, none⟩ = some (.slice A5 n5 c5) := (by rw [Blk.cell K9 0]; rfl); have f9 := Blk.frozen K9 0; have B9 := Lib.hid (q9.2.2.1.setCell (p := ⟨g7, 0, none⟩) G5.out.1.2.2.2 (.slice A9 n9 c9)); clear q9 K9)
  have G9 := Lib.hid (G5.out.step V9.out B9.out)
  clear V9 B9 G5 k9 f9 k5
  generalize w9.setCell ⟨g7, 0, none⟩ (.slice A9 n9 c9) = w10 at *
  refine Calls.mono (fill_any _ g7 n9 c9 A9 (whL aad ++ text) _ G9.out.1 (by rw [List.length_append, HL2.out]; have := HW2.out; omega)) ?_
  rintro e w11 ⟨⟨v11, rfl⟩, A11, n11, c11, hv11, hb11⟩
  have G11 : Hid (GF w gc nonce g7 A11 n11 c11 (whL aad ++ whL text) w11) := Lib.hid (by
    have h := G9.out.step hv11 hb11
    rwa [whL_app text HW1.out] at h)
  clear hv11 hb11 G9
  have HZL : Hid ((whL aad ++ whL text).length ≤ 10030) := Lib.hid (by rw [List.length_append]; have := HW2.out; have := HW3.out; omega)
  generalize whL aad ++ whL text = Z at *
  have G12 : Hid (GF w gc nonce g7 A11 n11 c11 (ezL n1 n2 Z 0) w11) := G11
  clear G11
  go_wp2_with fail
  go_loopw [30] (fun ii wr => ∃ (r n c : Nat) (A : Option Addr), r ≤ 2 ∧ ii = .int .i64 r ∧ Hid (GF w gc nonce g7 A n c (ezL n1 n2 Z r) wr)) (fun ii _ => 2 - (intOf ii).toNat)
  case atStart => exact ⟨0, n11, c11, A11, by omega, rfl, G12⟩
  case round =>
    clear G12
    obtain ⟨r, n, c, A, hr, rfl, HG⟩ := hrel
    by_cases hr2 : r < 2
    · obtain ⟨N, hN, hez, hix⟩ := ez_step n1 n2 Z hr2 hl1 hl2
      have HEZ := Lib.hid hez
      have HEL : Hid ((ezL n1 n2 Z r).length ≤ 10046) := Lib.hid (by have := ez_len n1 n2 Z r; have := HZL.out; omega)
      have G13 : Hid (GF w gc nonce g7 A n c (ezL n1 n2 Z r ++ (byk 8 (8 * N)).take 0) wr) := Lib.hid (by rw [List.take_zero, List.append_nil]; exact HG.out)
      clear hez HG
      generalize ezL n1 n2 Z r = E at *
      go_wp2_with fail
      clear hix
      generalize hbn : decide ((r : Int) < 2) = bn
      clear hbn
      go_loopw [11] (fun ii wr => ∃ (j n c : Nat) (A : Option Addr), j ≤ 8 ∧ ii = .int .i64 (7 - (j : Int)) ∧ Hid (GF w gc nonce g7 A n c (E ++ (byk 8 (8 * N)).take j) wr)) (fun ii _ => (intOf ii + 1).toNat)
      case atStart => exact ⟨0, n, c, A, by omega, rfl, G13⟩
      case round =>
        clear G13
        obtain ⟨j, n, c, A, hj, rfl, HG⟩ := hrel
        by_cases hj8 : j < 8
        · have hC : ∀ q : CW (fun v : World => v.cell? ⟨g7, 0, none⟩ = some (.slice A n c)), q.world.cell? ⟨g7, 0, none⟩ = some (.slice A n c) := fun q => q.holds
          have hne : Nonempty (CW (fun v : World => v.cell? ⟨g7, 0, none⟩ = some (.slice A n c))) := CW.inh HG.out.1.cell
          have HC0 := Lib.hid HG.out.1.cell
          have e1 : (8 * (7 - (j : Int))).toNat = 8 * (7 - j) := by omega
          go_wp2_with fail
          refine wp_region_mixO (fun v' : World => ∃ r : CW (fun v : World => v.cell? ⟨g7, 0, none⟩ = some (.slice A n c)), v' = r.world) [([0, 1, 2, 3, 4, 5, 6, 7], 8), ([], 9), ([], 10)] (by kernel_rfl) (by kernel_rfl) (by kernel_rfl) (by kernel_rfl) (by kernel_rfl) ⟨CW.mk' (w := wr.drew) HC0.out, rfl⟩ ?_
          simp only [pickL, List.map_cons, List.map_nil, List.filterMap_cons, List.filterMap_nil, List.getElem?_cons_succ, List.getElem?_cons_zero]
          refine mixO_cons ?_
          repeat (show wpQuiet _ _ _ _ (_ :: _) _; go_big_quiet_step (fail))
          refine wpQuiet_nil ?_
          show wpList _ _ _ [_] _ _
          go_wp2_with fail
          have HV : (N : Int) * 8 / 2 ^ (8 * (7 - j)) % 256 = ((8 * N / 256 ^ (8 - 1 - j) % 256 : Nat) : Int) := by
            rw [show (N : Int) * 8 = ((8 * N : Nat) : Int) by omega, castdiv, pow256_2]; rfl
          have HBS := Lib.hid (byk_snoc (m := 8) (n := 8 * N) hj8)
          rw [← HV] at HBS
          generalize (N : Int) * 8 / 2 ^ (8 * (7 - j)) % 256 = y at *
          have HGA := Lib.hid (HG.out.below ((Below.refl wr.heap.size wr).alloc (Nat.le_refl _) (.cells #[.int .u8 y] 5)).drew)
          have HRA : Hid (Rd (wr.heap.size + 1) .u8 (wr.alloc (.cells #[.int .u8 y] 5)).drew (some ⟨wr.heap.size, 0, none⟩) [y]) := Lib.hid (Rd.drew (Rd.newAt (xs := [y]) rfl rfl))
          have HTL : Hid ((E ++ (byk 8 (8 * N)).take j).length ≤ 10100) := Lib.hid (by rw [List.length_append, List.length_take, byk_len]; have := HEL.out; omega)
          have HGS := HG.out.size
          clear HV HG HC0
          generalize (wr.alloc (.cells #[.int .u8 y] 5)).drew = wa at *
          refine MixO.narrow (fun _ h => h) (⟨CW.mk' (w := wa) HGA.out.1.cell, rfl⟩) ?_
          refine mixO_cons ?_
          refine wpQuiet_nil ?_
          show wpList _ _ _ [_] _ _
          go_wp2_with (at_builtin; refine wpList_app (o := ⟨some 46, _, _, _, _, _⟩) elB8 rfl _ _ rfl rfl rfl HGA.out.1.2.1 HRA.out rfl ?_ ?_ ?_; (have := HTL.out; simp only [List.length_cons, List.length_nil]; omega); (exact HGA.out.size); intro A9 n9 c9 w9 q9; have V9 := Lib.hid (HGA.out.1.put q9); have K9 := HGA.out.1.keep q9; have k9 : w9.cell? ⟨g7, 0, none⟩ = some (.slice A n c) := (by rw [Blk.cell K9 0]; rfl); have f9 := Blk.frozen K9 0; have B9 := Lib.hid (q9.2.2.1.setCell (p := ⟨g7, 0, none⟩) HGA.out.1.2.2.2 (.slice A9 n9 c9)); clear q9 K9)
          refine MixO.narrow (fun _ h => h) (⟨CW.mk' (w := w9) k9, rfl⟩) ?_
          refine mixO_cons ?_
          refine wpQuiet_nil ?_
          show wpList _ _ _ [_] _ _
          go_wp2_with fail
          refine MixO.last ?_
          refine mixO_nil ?_
          refine wpQuiet_nil ?_
          refine NoPanic.normal ?_
          have G9 : Hid (GF w gc nonce g7 A9 n9 c9 (E ++ (byk 8 (8 * N)).take (j + 1)) (w9.setCell ⟨g7, 0, none⟩ (.slice A9 n9 c9))) := Lib.hid (by
            have h := HGA.out.step V9.out B9.out
            rwa [List.append_assoc, ← HBS.out] at h)
          clear V9 B9 HGA HRA k9 f9 hC hne e1 HBS HTL
          go_wp2_with fail
          go_roundw
          case rel => exact ⟨j + 1, n9, c9, A9, by omega, by go_num, G9⟩
          case measure => simp [intOf]; omega
        · have G9 : Hid (GF w gc nonce g7 A n c (ezL n1 n2 Z (r + 1)) wr) := Lib.hid (by
            have h := HG.out
            rwa [List.take_of_length_le (l := byk 8 (8 * N)) (by rw [byk_len]; omega), ← HEZ.out] at h)
          have hj88 : j = 8 := by omega
          subst hj88
          clear HG
          go_wp2_with fail
          go_roundw
          case rel => exact ⟨r + 1, n, c, A, by omega, by go_num, G9⟩
          case measure => simp [intOf]; omega
    · have hr22 : r = 2 := by omega
      have G9 : Hid (GF w gc nonce g7 A n c (fllL aad text) wr) := Lib.hid (by
        have h := HG.out
        rw [hr22, show ezL n1 n2 Z 2 = Z ++ (byk 8 (8 * n1) ++ byk 8 (8 * n2)) from List.append_assoc _ _ _] at h
        rw [HFE.out]
        exact h)
      clear HG
      have HFN := Lib.hid G9.out.1.2.1.len
      generalize fllL aad text = F at *
      have c0 : wr.cell? ⟨w.heap.size, 0, none⟩ = some (.pointer (some ⟨gc, 0, none⟩)) := by rw [Blk.cell G9.out.2.1 0]; rfl
      have p0 : ∀ q : BW wr.heap.size wr, q.world.cell? ⟨w.heap.size, 0, none⟩ = some (.pointer (some ⟨gc, 0, none⟩)) := fun q => by rw [Blk.cell (Blk.below G9.out.2.1 q.below (Blk.lt G9.out.2.1)) 0]; rfl
      have p1 : ∀ q : BW wr.heap.size wr, q.world.cell? ⟨g7, 0, none⟩ = some (.slice A n c) := fun q => (G9.out.1.below q.below).cell
      go_wp2_with fail
      refine wp_region_mixVB [⟨6, 12, 32, cellsL .u8 (nul 16)⟩] 7 [([0, 1, 2, 4], 3), ([], 5)] (by kernel_rfl) (by kernel_rfl) (by kernel_rfl) (by kernel_rfl) (by kernel_rfl) (by kernel_rfl) (by kernel_rfl) (by kernel_rfl) (by kernel_rfl) ?_ ?_
      · refine ⟨⟨by decide, _, rfl, ?_⟩, trivial⟩
        exact ⟨rfl, rfl, by kernel_rfl, al16 _ rfl⟩
      simp only [pickL, List.map_cons, List.map_nil, List.filterMap_cons, List.filterMap_nil, List.getElem?_cons_succ, List.getElem?_cons_zero]
      refine mixV_cons ?_
      repeat (show wpQuiet _ _ _ _ (_ :: _) _; go_big_quiet_step (fail))
      refine wpQuiet_nil ?_
      rintro x0 ⟨r0, rfl⟩
      show wpList _ _ _ [_] _ _
      go_wp2_with fail
      refine Calls.mono (aseal_any gc K (nul 16) _ HK.out z16_ok (HC.out.below (G9.out.2.2.2.trans (r0.below.mono G9.out.2.2.2.size)) HC.out.lt)) ?_
      rintro e x1 ⟨rfl, hb1⟩
      have X1 := Lib.hid (r0.below.trans (hb1.mono r0.below.size))
      obtain ⟨H, hH⟩ : ∃ H, aesL K (nul 16) = H := ⟨_, rfl⟩
      have HHO : Hid (Blk16 H) := Lib.hid (by rw [← hH]; exact HAO.out)
      have HHE := Lib.hid hH
      rw [hH]
      clear hH
      go_wp2_with fail
      refine MixV.bw r0.below r0.below.size hb1 ?_
      clear hb1
      refine mixV_cons ?_
      refine wpQuiet_nil ?_
      rintro x2 ⟨r2, rfl⟩
      have X2 := Lib.hid (X1.out.trans (r2.below.mono X1.out.size))
      show wpList _ _ _ [_] _ _
      go_wp2_with fail
      refine Calls.mono (hash_any A n c H F _ HHO.out HFB.out HFN.out.symm G9.out.1.2.1.cap.1 ((G9.out.below X2.out).1.2.1.rd)) ?_
      rintro e x3 ⟨rfl, hb3⟩
      have X3 := Lib.hid (X2.out.trans (hb3.mono X2.out.size))
      have HTE2 : Hid (tagL K nonce aad text = xaL (hashL H F) (ctrL K nonce 1)) := Lib.hid (by rw [HTE.out, HHE.out])
      have HQL := Lib.hid (hashL_len H F)
      generalize hashL H F = Q at *
      go_wp2_with fail
      refine MixV.bw r2.below r2.below.size hb3 ?_
      refine mixV_nil ?_
      rintro x4 ⟨r4, rfl⟩
      intro γ hγ hd
      obtain ⟨g4, e4, hN4, hB4⟩ := hγ _ (List.mem_cons_self ..)
      simp only at e4 hB4
      simp only [putsA, step1, e4, List.drop_succ_cons, List.drop_zero, Act.put, ptr0, List.setIfInBounds_toArray, List.set_cons_zero, List.set_cons_succ]
      have X4 := Lib.hid (X3.out.trans (r4.below.mono X3.out.size))
      have Z4 := Lib.hid hB4
      clear hB4 hb3 hγ hd e4 X1 X2 X3 HTE HHE c0 p0 p1
      go_wp2_with ((with_reducible (show wpList _ _ _ (⟨none, .store 32 _ _, _, _, _, _⟩ :: _) _ _)); refine wpList_storeArr (o := ⟨none, .store 32 _ _, _, _, _, _⟩) (g := g4) (t := 32) (k := .u8) (xs := Q) (n := 16) rfl _ _ rfl rfl rfl Z4.out sizeE16 HQL.out.symm rfl ?_; intro w5 ha5 hg5; have A5 := Lib.hid ha5; have B5 := Lib.hid (X4.out.trans (below_of_only hg5 hN4 X4.out.size)); clear ha5 hg5)
      refine NoPanic.normal ?_
      have hg6 : w.heap.size + 1 < g4 := by have := G9.out.2.2.1.lt; omega
      have hg60 : w.heap.size ≤ g4 := by omega
      have R5 := Lib.hid (G9.out.2.2.1.belowAll B5.out)
      have S5 := Lib.hid (G9.out.2.1.below B5.out (Blk.lt G9.out.2.1))
      have W5 := Lib.hid (G9.out.2.2.2.trans (B5.out.mono G9.out.2.2.2.size))
      clear G9 B5 X4 Z4 hN4 HFB HFN HFE
      have L54 := Lib.hid (blk_load (P := Try.prog) S5.out Try.underlying90 rfl (by rw [List.size_toArray, stV_len gc HN.out]; exact size90))
      go_wp2_with ((with_reducible (show wpList _ _ _ (⟨some 54, .load _ _, _, _, _, _⟩ :: _) _ _)); refine wpList_loadV (o := ⟨some 54, .load _ _, _, _, _, _⟩) rfl _ rfl rfl (L54.out) ?_)
      refine Calls.mono (sblock_any gc 1 K nonce _ HK.out HN.out HNB.out (HC.out.below W5.out HC.out.lt)) ?_
      rintro e w7 ⟨rfl, hb7⟩
      have R7 := Lib.hid (R5.out.belowAll hb7)
      have A7 : Hid (Arr w7 g4 32 .u8 (mixL Q (tagL K nonce aad text) 0)) := Lib.hid (by rw [mix_zero]; exact A5.out.belowAll hb7)
      have W7 := Lib.hid (W5.out.trans (hb7.mono W5.out.size))
      have HTG : Hid (∀ k, k < 16 → (tagL K nonce aad text).getD k 0 = xb (Q.getD k 0) ((ctrL K nonce 1).getD k 0)) := Lib.hid (fun k _ => by rw [HTE2.out, xaL_getD (by rw [HQL.out, HCO.out.1])])
      have HTL : Hid ((tagL K nonce aad text).length = 16) := Lib.hid (by rw [HTE2.out, xaL_len (by rw [HQL.out, HCO.out.1]), HQL.out])
      have HCL := Lib.hid HCO.out.1
      clear hb7 R5 A5 W5 S5 L54 HTE2 HCO
      generalize ctrL K nonce 1 = S at *
      generalize tagL K nonce aad text = T at *
      go_wp2_with fail
      go_loopw [56] (fun ii wr => ∃ k : Nat, k ≤ 16 ∧ ii = .int .i64 k ∧ Hid (Arr wr g4 32 .u8 (mixL Q T k)) ∧ Hid (Arr wr (w.heap.size + 1) 32 .u8 (nul 16)) ∧ Hid (Below w.heap.size w wr)) (fun ii _ => 16 - (intOf ii).toNat)
      case atStart => exact ⟨0, by omega, rfl, A7, R7, W7⟩
      case round =>
        clear A7 R7 W7
        obtain ⟨k, hk, rfl, HA, HRR, HW⟩ := hrel
        by_cases hlt : k < 16
        · have hix := fun v => idxB (P := Try.prog) Try.underlying32 Try.underlying5 elB8.size HCL.out (k := .u8) hlt .i64 v
          have HE := Lib.hid (HTG.out k hlt)
          have hml : Hid ((mixL Q T k).length = 16) := Lib.hid (by rw [mix_len (by rw [HQL.out, HTL.out]) (by rw [HQL.out]; omega), HQL.out])
          have c1 : wr.cell? ⟨g4, k, none⟩ = some (.int .u8 (Q.getD k 0)) := by
            have := HA.out.cell (i := k) (by rw [hml.out]; exact hlt)
            rwa [mix_get (by rw [HQL.out, HTL.out]) (Nat.le_refl _)] at this
          have f1 := HA.out.frozen k
          have HMS := Lib.hid (mix_set (xs := Q) (ys := T) (k := k) (by rw [HQL.out, HTL.out]) (by rw [HQL.out]; exact hlt))
          rw [HE.out] at HMS
          generalize S.getD k 0 = y at *
          generalize Q.getD k 0 = x at *
          go_wp2_with fail
          clear c1 f1 hix HE hml
          go_roundw
          case rel => exact ⟨k + 1, by omega, by go_num, Lib.hid (Arr.cast (HA.out.set k _) HMS.out), Lib.hid (HRR.out.far (by simp; omega) _), Lib.hid (HW.out.setCell hg60 _)⟩
          case measure => simp [intOf]; omega
        · have HA2 : Hid (Arr wr g4 32 .u8 T) := Lib.hid (Arr.cast HA.out (mix_past (by rw [HQL.out, HTL.out]) (by rw [HQL.out]; omega)))
          have L67 := Lib.hid (arr_load HA2.out Try.underlying32 sizeE16 HTL.out.symm)
          obtain ⟨w8, hs8, hz8, hg8⟩ := blk_storeAll (P := Try.prog) (ty := 32) (vs := iv .u8 T) HRR.out (by rw [iv_len, HTL.out, List.size_toArray, List.length_map, nul_len]) (iv_one _ _) (by rw [iv_len, HTL.out]; exact sizeE16)
          have S8 := Lib.hid hs8
          have Z8 := Lib.hid hz8
          have B8 := Lib.hid (HW.out.trans (below_of_only hg8 (by omega) HW.out.size))
          clear hs8 hz8 hg8 HA HRR HW
          go_wp2_with (first
            | ((with_reducible (show wpList _ _ _ (⟨some 67, .load _ _, _, _, _, _⟩ :: _) _ _)); refine wpList_loadV (o := ⟨some 67, .load _ _, _, _, _, _⟩) rfl _ rfl rfl (L67.out) ?_)
            | ((with_reducible (show wpList _ _ _ (⟨none, .store 32 _ _, _, _, _, _⟩ :: _) _ _)); refine wpList_storeV (o := ⟨none, .store 32 _ _, _, _, _, _⟩) rfl _ _ rfl rfl rfl (S8.out) ?_))
          refine ret_row rfl rfl Z8.out Try.underlying32 rfl (by rw [List.size_toArray, iv_len, HTL.out]; exact sizeE16) rfl ⟨rfl, B8.out⟩
end Go.Proofs.Ytepkbllcaeceeaa
