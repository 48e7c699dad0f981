/- Layer 10's packets: contracts. Conditions: as each theorem states them. -/
import Derived.Test.YthpacdondnenmaaJY
import Derived.Test.YthpacdondnenmaaJGa
import Derived.Test.YthpacdondnenmaaJHb
import Derived.Test.YthpacdondnenmaaAO
import Derived.ChangeArms
/- Layer 10: a packet's nonce, mask and protection as plain functions; contracts of Bits, of the reference's bits, row and nonce, and of key's nonce. Conditions: as each theorem states them. -/
namespace Go.Proofs.Ythpacdondnenmaa
open Go.RowKit
theorem mix_lo {xs ys : List Int} {k i : Nat} (hi : i < k) (hk : k ≤ xs.length) : (mixL ys xs k).getD i 0 = xs.getD i 0 := by
  unfold mixL
  rw [append_getD, List.length_take, Nat.min_eq_left hk, if_pos hi, getD_take hi]
theorem str_same (X : List Int) : ((strOfNums X).toList == (strOfNums X).toList) = true := by simp
/-- a packet number's nonce -/
def nonL (iv : List Int) (pn : Nat) : List Int := xaL iv (byk 12 pn)
theorem nonL_len {iv : List Int} (h : iv.length = 12) (pn : Nat) : (nonL iv pn).length = 12 := by unfold nonL; rw [xaL_len (by rw [h, byk_len]), h]
theorem nonL_byt (iv : List Int) (pn : Nat) : Byt (nonL iv pn) := xaL_byt _ _
theorem nonL_getD {iv : List Int} (h : iv.length = 12) (pn : Nat) {q j : Nat} (hq : q + j = 11) : (nonL iv pn).getD q 0 = xb (iv.getD q 0) ((pn / 256 ^ j % 256 : Nat) : Int) := by
  unfold nonL
  rw [xaL_getD (by rw [h, byk_len]), byk_getD 12 pn q (by omega), show 12 - 1 - q = j by omega]
theorem nonL_top {iv : List Int} (h : iv.length = 12) (hb : Byt iv) {pn : Nat} (hp : pn < 18446744073709551616) : mixL iv (nonL iv pn) 4 = iv := by
  refine ext_getD (by rw [mix_len (by rw [nonL_len h, h]) (by rw [h]; decide)]) fun q hq => ?_
  rcases Nat.lt_or_ge q 4 with h4 | h4
  · rw [mix_lo h4 (by rw [nonL_len h]; decide), nonL_getD h pn (j := 11 - q) (by omega)]
    have : pn / 256 ^ (11 - q) = 0 := Nat.div_eq_of_lt (Nat.lt_of_lt_of_le hp (by
      have : (256 : Nat) ^ 8 ≤ 256 ^ (11 - q) := Nat.pow_le_pow_right (by decide) (by omega)
      exact Nat.le_trans (by decide +kernel) this))
    rw [this]
    exact xb_zero (hb.getD q)
  · rw [mix_get (by rw [nonL_len h, h]) h4]
def bitsI (sp : Int) : Int := if sp = 2 then 31 else 15
theorem bitsI_u (sp : Int) : B8 (bitsI sp) := by unfold bitsI B8; split <;> omega
set_option maxRecDepth 100000 in
theorem kbits_any (sp : Int) (w : World) : Calls Try.prog 28 #[.int .u8 sp] w fun e w' => e = .returned (.int .u8 (bitsI sp)) ∧ w = w' := by
  unfold bitsI
  by_cases h : sp = 2
  · rw [if_pos h]
    subst h
    go_enter Try.func28, Try.ntmps28
    go_wp2_with fail
    go_ret
    exact ⟨rfl, rfl⟩
  · rw [if_neg h]
    have h2 : (sp == 2) = false := by simpa using h
    go_enter Try.func28, Try.ntmps28
    go_wp2_with fail
    go_ret
    exact ⟨rfl, rfl⟩
end Go.Proofs.Ythpacdondnenmaa
/- Layer 10: contracts of the reference's nonce and of key's nonce. Conditions: as each theorem states them. -/
namespace Go.Proofs.Ythpacdondnenmaa
open Go.RowKit
def Z12 : List Int := List.replicate 12 0
theorem make12E (w : World) : (Instr.makeSlice 28 (.int .i64 12) (.int .i64 12)).run Try.prog w = .ok (.slice (some ⟨w.heap.size, 0, none⟩) 12 12) (w.alloc (.cells (Z12.map (Value.int .u8)).toArray 5)) := make_any elB8 12 (by omega) w
attribute [irreducible] Z12
set_option maxRecDepth 100000 in
set_option maxHeartbeats 4000000 in
theorem nonce_any (S K I H : List Int) (p : Int) (N : Nat) (w : World) (hk : KyOk S K I H) (hN : N < 18446744073709551616) : Calls Try.prog 26 #[kyV S K I H p, .int .u64 N] w (RetV (.agg (cellsL .u8 (nonL I N))) w) := by
  unfold kyV
  have HK := Lib.hid hk
  have HIL := Lib.hid hk.i
  have HL : Hid ((nonL I N).length = 12) := Lib.hid (nonL_len hk.i N)
  have HT : Hid (mixL I (nonL I N) (4 + 0) = I) := Lib.hid (nonL_top hk.i hk.bi hN)
  have HG : Hid (∀ k, k < 8 → (nonL I N).getD (4 + k) 0 = xb (I.getD (4 + k) 0) ((N / 2 ^ (56 - 8 * k) % 256 : Nat) : Int)) := Lib.hid (fun k hk' => by rw [nonL_getD hk.i N (j := 7 - k) (by omega), pow256_2, show 8 * (7 - k) = 56 - 8 * k by omega])
  clear hk
  generalize nonL I N = T at *
  go_enter Try.func26, Try.ntmps26
  go_wp2_with (first
    | ((with_reducible (show wpList _ _ _ (⟨some 8, .load _ _, _, _, _, _⟩ :: _) _ _)); refine wpList_loadV (o := ⟨some 8, .load _ _, _, _, _, _⟩) rfl _ rfl rfl (ky_load2 HK.out ((Blk.new _ _ _).alloc _)) ?_)
    | ((with_reducible (show wpList _ _ _ (⟨none, .store 24 _ _, _, _, _, _⟩ :: _) _ _)); go_loud (refine wpList_storeArr (o := ⟨none, .store 24 _ _, _, _, _, _⟩) (g := w.heap.size + 1 + 1) (t := 24) (k := .u8) (xs := I) (n := 12) rfl _ _ rfl rfl rfl (blk_new_at (by simp)) size12 HIL.out.symm rfl ?_; intro w3 ha3 hg3; have HA3 := Lib.hid ha3; have HG3 := Lib.hid hg3; clear ha3 hg3)))
  have KB : Hid (KyB w3 w.heap.size S K I H p) := Lib.hid (Blk.grown (((Blk.new w 27 (kyL S K I H p).toArray).alloc _).alloc _) HG3.out (by simp; omega))
  have Z3 : Hid (Arr w3 (w.heap.size + 1) 24 .u8 (nul 12)) := Lib.hid (Arr.grown ((Arr.newAt (by simp) rfl).alloc _) HG3.out (by simp))
  have B3 : Hid (Below w.heap.size w w3) := Lib.hid ((((Below.refl w.heap.size w).alloc (Nat.le_refl _) _).alloc (by simp) _).alloc (by simp <;> omega) _ |>.trans (below_of_only HG3.out (by omega) (by simp <;> omega)))
  have HA0 : Hid (Arr w3 (w.heap.size + 1 + 1) 24 .u8 (mixL I T (4 + 0))) := Lib.hid (by rw [HT.out]; exact HA3.out)
  clear HG3 HA3 HT
  obtain ⟨gk, hgk⟩ : ∃ gk, w.heap.size = gk := ⟨_, rfl⟩
  rw [hgk] at KB Z3 HA0 ⊢
  go_loopw [9] (fun ii wr => ∃ k : Nat, k ≤ 8 ∧ ii = .int .i64 k ∧ Hid (Arr wr (gk + 1 + 1) 24 .u8 (mixL I T (4 + k))) ∧ Hid (Arr wr (gk + 1) 24 .u8 (nul 12)) ∧ Hid (Below w.heap.size w wr)) (fun ii _ => 8 - (intOf ii).toNat)
  case atStart => exact ⟨0, by omega, rfl, HA0, Z3, B3⟩
  case round =>
    clear HA0 Z3 B3 KB
    obtain ⟨k, hk, rfl, HA, HZ, HB⟩ := hrel
    by_cases hlt : k < 8
    · have hml : Hid ((mixL I T (4 + k)).length = 12) := Lib.hid (by rw [mix_len (by rw [HIL.out, HL.out]) (by rw [HIL.out]; omega), HIL.out])
      have p1 : ∀ r : BW wr.heap.size wr, r.world.cell? ⟨gk + 1 + 1, 4 + k, none⟩ = some (.int .u8 (I.getD (4 + k) 0)) := fun r => by
        have := (HA.out.belowAll r.below).cell (i := 4 + k) (by rw [hml.out]; omega)
        rwa [mix_get (by rw [HIL.out, HL.out]) (Nat.le_refl _)] at this
      have f1 := HA.out.frozen (4 + k)
      have q1 : wr.cell? ⟨gk + 1 + 1, 4 + k, none⟩ = some (.int .u8 (I.getD (4 + k) 0)) := p1 ⟨wr, Below.refl _ _⟩
      have HMS := mix_set (xs := I) (ys := T) (k := 4 + k) (by rw [HIL.out, HL.out]) (by rw [HIL.out]; omega)
      rw [HG.out k hlt] at HMS
      have hcv : ((N / 2 ^ (56 - 8 * k) % 256 : Nat) : Int) = (N : Int) / 2 ^ (56 - 8 * k) % 256 := by rw [castdiv]; rfl
      rw [hcv] at HMS
      have HMS := Lib.hid HMS
      have e1 : (4 + (k : Int)).toNat = 4 + k := by omega
      have e2 : (56 - 8 * (k : Int)).toNat = 56 - 8 * k := by omega
      generalize I.getD (4 + k) 0 = x at *
      clear hcv
      go_wp2_with fail
      refine wp_region_mixOB wr.heap.size [([0, 1, 2, 3, 4, 5, 6, 7, 8, 9, 10, 11], 12)] (by kernel_rfl) (by kernel_rfl) (by kernel_rfl) (by kernel_rfl) (by kernel_rfl) ?_
      try (rw [put_none])
      simp only [pickL, List.map_cons, List.map_nil, List.filterMap_cons, List.filterMap_nil, List.getElem?_cons_succ, List.getElem?_cons_zero]
      refine mixO_cons ?_
      repeat (show wpQuiet _ _ _ _ (_ :: _) _; go_big_quiet_step (fail))
      refine wpQuiet_nil ?_
      show wpList _ _ _ [_] _ _
      go_wp2_with fail
      refine MixO.last ?_
      refine mixO_nil ?_
      refine wpQuiet_nil ?_
      refine NoPanic.normal ?_
      have HA9 : Hid (Arr (wr.drew.setCell ⟨gk + 1 + 1, 4 + k, none⟩ (.int .u8 (bits .xor .u8 x ((N : Int) / 2 ^ (56 - 8 * k) % 256)))) (gk + 1 + 1) 24 .u8 (mixL I T (4 + (k + 1)))) := Lib.hid (Arr.cast ((Arr.drew HA.out).set (4 + k) _) HMS.out)
      have HZ9 : Hid (Arr (wr.drew.setCell ⟨gk + 1 + 1, 4 + k, none⟩ (.int .u8 (bits .xor .u8 x ((N : Int) / 2 ^ (56 - 8 * k) % 256)))) (gk + 1) 24 .u8 (nul 12)) := Lib.hid ((Arr.drew HZ.out).far (by simp) _)
      have HB9 : Hid (Below w.heap.size w (wr.drew.setCell ⟨gk + 1 + 1, 4 + k, none⟩ (.int .u8 (bits .xor .u8 x ((N : Int) / 2 ^ (56 - 8 * k) % 256))))) := Lib.hid (HB.out.drew.setCell (by simp; omega) _)
      clear HA HZ HB p1 f1 q1 HMS hml
      go_wp2_with fail
      go_roundw
      case rel => exact ⟨k + 1, by omega, by go_num, HA9, HZ9, HB9⟩
      case measure => simp [intOf]; omega
    · have HA2 : Hid (Arr wr (gk + 1 + 1) 24 .u8 T) := Lib.hid (Arr.cast HA.out (by rw [show 4 + k = T.length by rw [HL.out]; omega, mix_full (by rw [HIL.out, HL.out])]))
      have L25 := Lib.hid (arr_load HA2.out Try.underlying24 size12 HL.out.symm)
      obtain ⟨w8, hs8, hz8, hg8⟩ := blk_storeAll (P := Try.prog) (ty := 24) (vs := iv .u8 T) HZ.out (by rw [iv_len, HL.out, List.size_toArray, List.length_map, nul_len]) (iv_one _ _) (by rw [iv_len, HL.out]; exact size12)
      have S8 := Lib.hid hs8
      have Z8 := Lib.hid hz8
      have B8 := Lib.hid (HB.out.trans (below_of_only hg8 (by omega) HB.out.size))
      clear hs8 hz8 hg8 HA HZ HB
      go_wp2_with (first
        | ((with_reducible (show wpList _ _ _ (⟨some 25, .load _ _, _, _, _, _⟩ :: _) _ _)); refine wpList_loadV (o := ⟨some 25, .load _ _, _, _, _, _⟩) rfl _ rfl rfl (L25.out) ?_)
        | ((with_reducible (show wpList _ _ _ (⟨none, .store 24 _ _, _, _, _, _⟩ :: _) _ _)); refine wpList_storeV (o := ⟨none, .store 24 _ _, _, _, _, _⟩) rfl _ _ rfl rfl rfl (S8.out) ?_))
      refine ret_row rfl rfl Z8.out Try.underlying24 rfl (by rw [List.size_toArray, iv_len, HL.out]; exact size12) rfl ⟨rfl, B8.out⟩
end Go.Proofs.Ythpacdondnenmaa
/- Layer 10: contracts of the reference's mask and of key's mask. Conditions: as each theorem states them. -/
namespace Go.Proofs.Ythpacdondnenmaa
open Go.RowKit
/-- a packet's sample, by the place of its number -/
def smpL (b : List Int) (at_ : Nat) : List Int := (b.drop (at_ + 4)).take 16
def maskL (H b : List Int) (at_ : Nat) : List Int := aesL H (smpL b at_)
theorem smpL_ok {b : List Int} (hb : Byt b) {at_ : Nat} (h : at_ + 20 ≤ b.length) : Blk16 (smpL b at_) := ⟨by unfold smpL; rw [List.length_take, List.length_drop]; omega, (hb.drop _).take _⟩
theorem maskL_ok {H b : List Int} (hH : Blk16 H) (hb : Byt b) {at_ : Nat} (h : at_ + 20 ≤ b.length) : Blk16 (maskL H b at_) := aesL_ok hH (smpL_ok hb h)
theorem ovi_full {X Z : List Int} (h : X.length = Z.length) : ovi Z 0 X = X := by
  unfold ovi
  rw [List.take_zero, List.nil_append, Nat.zero_add, h, List.drop_length, List.append_nil]
set_option maxRecDepth 100000 in
set_option maxHeartbeats 4000000 in
theorem mask_any (S K I H b : List Int) (p : Int) (A : Option Addr) (n c at_ : Nat) (w : World) (hk : KyOk S K I H) (hn : b.length = n) (hb : Byt b) (hc : n ≤ c) (hn2 : n < 100000) (ha : at_ + 20 ≤ n) (hr : Rd w.heap.size .u8 w A b) :
    Calls Try.prog 27 #[kyV S K I H p, .slice A n c, .int .i64 at_] w (RetV (.agg (cellsL .u8 (maskL H b at_))) w) := by
  unfold kyV
  have HK := Lib.hid hk
  have HM : Hid (maskL H b at_ = aesL H (smpL b at_)) := Lib.hid rfl
  have HSM := Lib.hid (smpL_ok hb (show at_ + 20 ≤ b.length by rw [hn]; exact ha))
  have HH : Hid (Blk16 H) := Lib.hid ⟨hk.h, hk.bh⟩
  have HAO : Hid ((aesL H (smpL b at_)).length = 16) := Lib.hid (aesL_ok ⟨hk.h, hk.bh⟩ HSM.out).1
  obtain ⟨A2, c2, s1, s2, s3, s4, s5⟩ := slice_lN elB8 hr hn hc ((at_ : Int) + 4) (n - (at_ + 4)) (by omega) (by omega) (by omega)
  have e4 : ((at_ : Int) + 4).toNat = at_ + 4 := by omega
  rw [e4] at s3 s4
  have S3 := Lib.hid s3
  have S4 := Lib.hid s4
  have hov : Hid (ovi (nul 16) 0 ((b.drop (at_ + 4)).take 16) = smpL b at_) := Lib.hid (ovi_full (by rw [nul_len]; exact HSM.out.1))
  rw [HM.out]
  generalize hP : smpL b at_ = P at *
  clear hk hn hb hr s3 s4 e4 HM hP
  go_enter Try.func27, Try.ntmps27
  go_wp2_with fail
  have A0 : Hid (KyB (((w.alloc (.cells (kyL S K I H p).toArray 27)).alloc (.cells (cellsL .u8 (nul 16)) 23)).alloc (.cells (cellsL .u8 (nul 16)) 23)) w.heap.size S K I H p) := Lib.hid (((Blk.new w 27 (kyL S K I H p).toArray).alloc _).alloc _)
  have A1 : Hid (Arr (((w.alloc (.cells (kyL S K I H p).toArray 27)).alloc (.cells (cellsL .u8 (nul 16)) 23)).alloc (.cells (cellsL .u8 (nul 16)) 23)) (w.heap.size + 1) 23 .u8 (nul 16)) := Lib.hid (Arr.alloc (Arr.newAt (by simp) rfl) _)
  have A2' : Hid (Arr (((w.alloc (.cells (kyL S K I H p).toArray 27)).alloc (.cells (cellsL .u8 (nul 16)) 23)).alloc (.cells (cellsL .u8 (nul 16)) 23)) (w.heap.size + 1 + 1) 23 .u8 (nul 16)) := Lib.hid (Arr.newAt (by simp) rfl)
  have BB : Hid (Below w.heap.size w (((w.alloc (.cells (kyL S K I H p).toArray 27)).alloc (.cells (cellsL .u8 (nul 16)) 23)).alloc (.cells (cellsL .u8 (nul 16)) 23))) := Lib.hid ((((Below.refl _ _).alloc (Nat.le_refl _) _).alloc (by simp) _).alloc (by simp <;> omega) _)
  have S5 : Hid (Rd w.heap.size .u8 (((w.alloc (.cells (kyL S K I H p).toArray 27)).alloc (.cells (cellsL .u8 (nul 16)) 23)).alloc (.cells (cellsL .u8 (nul 16)) 23)) A2 (b.drop (at_ + 4))) := Lib.hid (S3.out.below BB.out (Nat.le_refl _))
  refine wp_region_mixOB w.heap.size [([0, 1, 2, 3, 4], 5)] (by kernel_rfl) (by kernel_rfl) (by kernel_rfl) (by kernel_rfl) (by kernel_rfl) ?_
  try (rw [put_none])
  simp only [pickL, List.map_cons, List.map_nil, List.filterMap_cons, List.filterMap_nil, List.getElem?_cons_succ, List.getElem?_cons_zero]
  refine mixO_cons ?_
  repeat (show wpQuiet _ _ _ _ (_ :: _) _; go_big_quiet_step (fail))
  refine wpQuiet_nil ?_
  show wpList _ _ _ [_] _ _
  go_wp2_with ((with_reducible (show wpList _ _ _ (⟨some 13, _, _, _, _, _⟩ :: _) _ _)); go_loud (refine wpList_copyAt (o := ⟨some 13, _, _, _, _, _⟩) (g := w.heap.size + 1 + 1) (off := 0) (m := 16) (k := .u8) (xs := nul 16) rfl _ _ rfl Try.underlying28 sizeE1 rfl rfl (Arr.drew A2'.out) (Rd.drew S5.out) S4.out ?_ ?_ ?_; (show 16 = min _ _; omega); (rw [nul_len]; omega); intro w6 ha6 hg6; rw [hov.out] at ha6; have HA6 := Lib.hid ha6; have HB6 := Lib.hid (BB.out.drew.trans (below_of_only hg6 (by omega) (by simp <;> omega))); have H06 : Hid (KyB w6 w.heap.size S K I H p) := Lib.hid (Blk.grown (Blk.drew A0.out) hg6 (by simp; omega)); have H16 := Lib.hid (Arr.grown (Arr.drew A1.out) hg6 (by simp)); clear ha6 hg6))
  refine MixO.last ?_
  refine mixO_nil ?_
  refine wpQuiet_nil ?_
  refine NoPanic.normal ?_
  clear A0 A1 A2' BB S5
  go_wp2_with fail
  obtain ⟨gk, hgk⟩ : ∃ gk, w.heap.size = gk := ⟨_, rfl⟩
  rw [hgk] at HA6 H06 H16 ⊢
  have hz6 : gk + 1 + 1 < w6.heap.size := HA6.out.lt
  refine wp_region_mixOB w6.heap.size [([0, 1, 3], 2), ([], 4), ([], 5)] (by kernel_rfl) (by kernel_rfl) (by kernel_rfl) (by kernel_rfl) (by kernel_rfl) ?_
  try (rw [put_none])
  simp only [pickL, List.map_cons, List.map_nil, List.filterMap_cons, List.filterMap_nil, List.getElem?_cons_succ, List.getElem?_cons_zero]
  refine mixO_cons ?_
  show wpQuiet _ _ _ _ (_ :: _) _
  go_big_quiet_step (fail)
  show wpQuiet _ _ _ _ (_ :: _) _
  refine wpQuiet_loadV (o := ⟨some 15, _, _, _, _, _⟩) rfl _ rfl rfl (fun w' hw' => by obtain ⟨r, rfl⟩ := hw'; exact ky_load3 HK.out (Blk.below H06.out r.below (Blk.lt H06.out))) ?_
  simp only [Act.put, List.setIfInBounds_toArray, List.set_cons_zero, List.set_cons_succ]
  show wpQuiet _ _ _ _ (_ :: _) _
  refine wpQuiet_loadV (o := ⟨some 17, _, _, _, _, _⟩) rfl _ rfl rfl (fun w' hw' => by obtain ⟨r, rfl⟩ := hw'; exact arr_load (HA6.out.belowAll r.below) Try.underlying23 size16 HSM.out.1.symm) ?_
  simp only [Act.put, List.setIfInBounds_toArray, List.set_cons_zero, List.set_cons_succ]
  refine wpQuiet_nil ?_
  show wpList _ _ _ [_] _ _
  go_wp2_with fail
  have D6 := (Below.refl w6.heap.size w6).drew
  refine Calls.mono (anew_any H _ HH.out) ?_
  rintro e w7 ⟨gc, rfl, hgc, hc1, hb1⟩
  have B7 := Lib.hid (D6.trans hb1)
  have C7 := Lib.hid hc1
  clear hb1 hc1
  go_wp2_with fail
  refine MixO.narrowB B7.out B7.out.size ?_
  refine mixO_cons ?_
  refine wpQuiet_nil ?_
  show wpList _ _ _ [_] _ _
  go_wp2_with fail
  refine Calls.mono (aseal_any gc H P _ HH.out HSM.out C7.out) ?_
  rintro e w8 ⟨rfl, hb8⟩
  have B8 := Lib.hid hb8
  have H18 := Lib.hid ((H16.out.belowAll B7.out).belowAll hb8)
  have W8 := Lib.hid ((HB6.out.trans (B7.out.mono (by omega))).trans (hb8.mono (by have := B7.out.size; omega)))
  obtain ⟨w9, hs9, hz9, hg9⟩ := blk_storeAll (P := Try.prog) (ty := 23) (vs := iv .u8 (aesL H P)) H18.out (by rw [iv_len, HAO.out, List.size_toArray, List.length_map, nul_len]) (iv_one _ _) (by rw [iv_len, HAO.out]; exact size16)
  have S9 := Lib.hid hs9
  have Z9 := Lib.hid hz9
  have B9 := Lib.hid (W8.out.trans (below_of_only hg9 (by omega) W8.out.size))
  clear hb8 hs9 hz9 hg9
  go_wp2_with fail
  refine MixO.narrowB B8.out B8.out.size ?_
  refine mixO_cons ?_
  refine wpQuiet_nil ?_
  show wpList _ _ _ [_] _ _
  go_wp2_with ((with_reducible (show wpList _ _ _ (⟨none, .store 23 _ _, _, _, _, _⟩ :: _) _ _)); refine wpList_storeV (o := ⟨none, .store 23 _ _, _, _, _, _⟩) rfl _ _ rfl rfl rfl (S9.out) ?_)
  refine MixO.last ?_
  refine mixO_nil ?_
  refine wpQuiet_nil ?_
  refine NoPanic.normal ?_
  go_wp2_with fail
  refine ret_row rfl rfl Z9.out Try.underlying23 rfl (by rw [List.size_toArray, iv_len, HAO.out]; exact size16) rfl ⟨rfl, B9.out⟩
end Go.Proofs.Ythpacdondnenmaa
namespace Go.Proofs.Ythpacdondnenmaa
open Go.RowKit
def ab (a b : Int) : Int := bits .and .u8 a b
/-- a packet's protected bits, so many bytes of its number among them -/
def protL (B m : List Int) (at_ : Nat) (c : Int) : Nat → List Int
  | 0 => B.set 0 (xb (B.getD 0 0) (ab (m.getD 0 0) c))
  | j + 1 => (protL B m at_ c j).set (at_ + j) (xb ((protL B m at_ c j).getD (at_ + j) 0) (m.getD (1 + j) 0))
theorem protL_zero (B m : List Int) (at_ : Nat) (c : Int) : protL B m at_ c 0 = B.set 0 (xb (B.getD 0 0) (ab (m.getD 0 0) c)) := rfl
theorem protL_succ (B m : List Int) (at_ : Nat) (c : Int) (j : Nat) : protL B m at_ c (j + 1) = (protL B m at_ c j).set (at_ + j) (xb ((protL B m at_ c j).getD (at_ + j) 0) (m.getD (1 + j) 0)) := rfl
theorem protL_len (B m : List Int) (at_ : Nat) (c : Int) : ∀ j, (protL B m at_ c j).length = B.length
  | 0 => by rw [protL_zero, List.length_set]
  | j + 1 => by rw [protL_succ, List.length_set, protL_len B m at_ c j]
theorem protL_byt {B m : List Int} (hB : Byt B) (at_ : Nat) (c : Int) : ∀ j, Byt (protL B m at_ c j)
  | 0 => bytE_set hB 0 (xb_u _ _)
  | j + 1 => bytE_set (protL_byt hB at_ c j) _ (xb_u _ _)
/-- a packet ahead of its protection -/
def boxL_ (K I : List Int) (h : HD) (plain : List Int) : List Int := h.put (plain.length + 16) ++ gsealL K (nonL I h.pn.toNat) (h.put (plain.length + 16)) plain
def atN (h : HD) (plain : List Int) : Nat := (h.put (plain.length + 16)).length - h.pb.toNat
def pktL (K I H : List Int) (h : HD) (plain : List Int) : List Int :=
  protL (boxL_ K I h plain) (maskL H (boxL_ K I h plain) (atN h plain)) (atN h plain) (bitsI h.space) h.pb.toNat
theorem kvcls_le (n : Int) : vcls n ≤ 4 := by unfold vcls; split <;> (try split) <;> (try split) <;> (try split) <;> omega
theorem vput_le (n : Int) : (vput n).length ≤ 16 := by
  rw [vput_len]
  have : 2 ^ vcls n ≤ 2 ^ 4 := Nat.pow_le_pow_right (by decide) (kvcls_le n)
  exact this
theorem put_lens {h : HD} (hm : h.May) (n : Int) : h.pb.toNat + 1 ≤ (h.put n).length ∧ (h.put n).length ≤ h.tok.length + 150 := by
  obtain ⟨m1, m2, m3, m4, m5, m6, m7, m8, m9⟩ := hm
  have hv1 := vput_le (h.tok.length)
  have hv2 := vput_le (h.pb + n)
  have hpb : h.pb.toNat ≤ 4 := by omega
  unfold HD.put HD.rest
  split
  · simp only [List.length_cons, List.length_append, beL_len]
    omega
  · split
    · simp only [List.length_cons, List.length_append, beL_len, List.length_nil]
      omega
    · simp only [List.length_cons, List.length_append, beL_len, List.length_nil]
      omega
theorem sizeHead : (Try.prog.info? 30).map (·.size) = some 7 := by kernel_rfl
theorem head_fine : Try.prog.underlying 30 = some (.struct (Try.prog.fieldsOf 30)) := by kernel_rfl
theorem hv_load {w : World} {g : Nat} {h : HD} {A1 A2 A3 : Option Addr} {c1 c2 c3 : Nat} (b : Blk w g 30 (HV h A1 c1 A2 c2 A3 c3)) : (Instr.loadAt 30 (.pointer (some ⟨g, 0, none⟩))).run Try.prog w = .ok (.agg (HV h A1 c1 A2 c2 A3 c3)) w :=
  blk_load b head_fine rfl sizeHead
theorem hv_cells {w : World} {g : Nat} {h : HD} {A1 A2 A3 : Option Addr} {c1 c2 c3 N pbn : Nat} (b : Blk w g 30 (HV h A1 c1 A2 c2 A3 c3)) (hN : h.pn = (N : Int)) (hpb : h.pb = (pbn : Int)) :
    w.cell? ⟨g, 0, none⟩ = some (.int .u8 h.space) ∧ w.cell? ⟨g, 5, none⟩ = some (.int .u64 N) ∧ w.cell? ⟨g, 6, none⟩ = some (.int .i64 pbn) :=
  ⟨by rw [Blk.cell b]; rfl, by rw [Blk.cell b, ← hN]; rfl, by rw [Blk.cell b, ← hpb]; rfl⟩
attribute [local irreducible] HV gsealL
set_option maxRecDepth 100000 in
set_option maxHeartbeats 4000000 in
theorem kseal_no (S K I H : List Int) (p : Int) (h : HD) (A1 : Option Addr) (c1 : Nat) (A2 : Option Addr) (c2 : Nat) (A3 : Option Addr) (c3 : Nat) (A4 : Option Addr) (n c4 : Nat) (w : World) (hf : h.Fit) (hno : ¬ h.May ∨ h.pb + n < 4) :
    Calls Try.prog 7 #[kyV S K I H p, .agg (HV h A1 c1 A2 c2 A3 c3), .slice A4 n c4] w fun e w' => e = .returned (.tuple #[.slice none 0 0, .int .i64 2]) ∧ Below w.heap.size w w' := by
  unfold kyV
  have HM := Lib.hid (fun w => may_any h A1 c1 A2 c2 A3 c3 w hf)
  have B0 : Hid (Below w.heap.size w ((w.alloc (.cells (kyL S K I H p).toArray 27)).alloc (.cells (HV h A1 c1 A2 c2 A3 c3) 30))) := Lib.hid (((Below.refl _ _).alloc (Nat.le_refl _) _).alloc (by simp) _)
  have K0 : Hid (Blk ((w.alloc (.cells (kyL S K I H p).toArray 27)).alloc (.cells (HV h A1 c1 A2 c2 A3 c3) 30)) (w.heap.size + 1) 30 (HV h A1 c1 A2 c2 A3 c3)) := Lib.hid (blk_new_at (by simp))
  have L14 := Lib.hid (hv_load K0.out)
  go_enter Try.func7, Try.ntmps7
  go_wp2_with ((with_reducible (show wpList _ _ _ (⟨some 14, .load _ _, _, _, _, _⟩ :: _) _ _)); refine wpList_loadV (o := ⟨some 14, .load _ _, _, _, _, _⟩) rfl _ rfl rfl (L14.out) ?_)
  refine Calls.mono (HM.out _) ?_
  rintro e w2 ⟨rfl, hb2⟩
  have K2 := Lib.hid (K0.out.below hb2 K0.out.lt)
  have B2 := Lib.hid (B0.out.trans (hb2.mono B0.out.size))
  clear hb2 L14 K0 B0
  by_cases hm : h.May
  · have hpb : h.pb + n < 4 := by rcases hno with h1 | h1; exact absurd hm h1; exact h1
    rw [decide_eq_true hm]
    have hp0 := hm.2.2.2.1
    have hp1 := hm.2.2.2.2.1
    have q6 : w2.cell? ⟨w.heap.size + 1, 6, none⟩ = some (.int .i64 h.pb) := by rw [Blk.cell K2.out]; unfold HV; rfl
    go_wp2_with fail
    go_ret2
    exact ⟨rfl, B2.out⟩
  · rw [decide_eq_false hm]
    go_wp2_with fail
    go_ret2
    exact ⟨rfl, B2.out⟩
set_option maxRecDepth 100000 in
set_option maxHeartbeats 4000000 in
theorem kseal_long (S K I H : List Int) (p : Int) (h : HD) (A1 : Option Addr) (c1 : Nat) (A2 : Option Addr) (c2 : Nat) (A3 : Option Addr) (c3 : Nat) (A4 : Option Addr) (n c4 : Nat) (w : World) (hf : h.Fit) (hm : h.May) (hn : 60000 < n) (hn2 : n ≤ 140737488355328) :
    Calls Try.prog 7 #[kyV S K I H p, .agg (HV h A1 c1 A2 c2 A3 c3), .slice A4 n c4] w fun e w' => e = .returned (.tuple #[.slice none 0 0, .int .i64 3]) ∧ Below w.heap.size w w' := by
  unfold kyV
  have HM := Lib.hid (fun w => may_any h A1 c1 A2 c2 A3 c3 w hf)
  have B0 : Hid (Below w.heap.size w ((w.alloc (.cells (kyL S K I H p).toArray 27)).alloc (.cells (HV h A1 c1 A2 c2 A3 c3) 30))) := Lib.hid (((Below.refl _ _).alloc (Nat.le_refl _) _).alloc (by simp) _)
  have K0 : Hid (Blk ((w.alloc (.cells (kyL S K I H p).toArray 27)).alloc (.cells (HV h A1 c1 A2 c2 A3 c3) 30)) (w.heap.size + 1) 30 (HV h A1 c1 A2 c2 A3 c3)) := Lib.hid (blk_new_at (by simp))
  have L14 := Lib.hid (hv_load K0.out)
  go_enter Try.func7, Try.ntmps7
  go_wp2_with ((with_reducible (show wpList _ _ _ (⟨some 14, .load _ _, _, _, _, _⟩ :: _) _ _)); refine wpList_loadV (o := ⟨some 14, .load _ _, _, _, _, _⟩) rfl _ rfl rfl (L14.out) ?_)
  refine Calls.mono (HM.out _) ?_
  rintro e w2 ⟨rfl, hb2⟩
  have K2 := Lib.hid (K0.out.below hb2 K0.out.lt)
  have B2 := Lib.hid (B0.out.trans (hb2.mono B0.out.size))
  clear hb2 L14 K0 B0
  rw [decide_eq_true hm]
  have hp0 := hm.2.2.2.1
  have hp1 := hm.2.2.2.2.1
  have q6 : w2.cell? ⟨w.heap.size + 1, 6, none⟩ = some (.int .i64 h.pb) := by rw [Blk.cell K2.out]; unfold HV; rfl
  go_wp2_with fail
  go_ret2
  exact ⟨rfl, B2.out⟩
end Go.Proofs.Ythpacdondnenmaa
namespace Go.Proofs.Ythpacdondnenmaa
open Go.RowKit
/-- both of the boxed arguments -/
structure KH (gk gh : Nat) (S K I H : List Int) (p : Int) (hv : Array Value) (v : World) : Prop where
  k : KyB v gk S K I H p
  h : Blk v gh 30 hv
theorem KH.to {gk gh N : Nat} {S K I H : List Int} {p : Int} {hv : Array Value} {v v' : World} (h : KH gk gh S K I H p hv v) (hb : Below N v v') (h1 : gk < N) (h2 : gh < N) : KH gk gh S K I H p hv v' := ⟨Blk.below h.k hb h1, Blk.below h.h hb h2⟩
theorem KH.lt {gk gh : Nat} {S K I H : List Int} {p : Int} {hv : Array Value} {v : World} (h : KH gk gh S K I H p hv v) : gk < v.heap.size ∧ gh < v.heap.size := ⟨Blk.lt h.k, Blk.lt h.h⟩
theorem KH.all {gk gh : Nat} {S K I H : List Int} {p : Int} {hv : Array Value} {v v' : World} (h : KH gk gh S K I H p hv v) (hb : Below v.heap.size v v') : KH gk gh S K I H p hv v' := h.to hb h.lt.1 h.lt.2
attribute [local irreducible] HV gsealL maskL protL
set_option maxRecDepth 100000 in
set_option maxHeartbeats 8000000 in
theorem kseal_yes (S K I H : List Int) (p : Int) (h : HD) (A1 : Option Addr) (c1 : Nat) (A2 : Option Addr) (c2 : Nat) (A3 : Option Addr) (c3 : Nat) (A4 : Option Addr) (n c4 : Nat) (plain : List Int) (w : World) (hk : KyOk S K I H) (hf : h.Fit) (hm : h.May) (hn : plain.length = n) (hpl : Byt plain) (h4 : 4 ≤ h.pb + n) (hn2 : n ≤ 4000) (htok : h.tok.length ≤ 3000)
    (r1 : Rd w.heap.size .u8 w A1 h.dst) (r2 : Rd w.heap.size .u8 w A2 h.src) (r3 : Rd w.heap.size .u8 w A3 h.tok) (r4 : Rd w.heap.size .u8 w A4 plain) :
    Calls Try.prog 7 #[kyV S K I H p, .agg (HV h A1 c1 A2 c2 A3 c3), .slice A4 n c4] w (RetOwn2 5 .u8 (pktL K I H h plain) (.int .i64 0) w) := by
  unfold kyV
  obtain ⟨N, hN⟩ : ∃ N : Nat, h.pn = (N : Int) := ⟨h.pn.toNat, by have := hf.2.2.2.2.2.1; omega⟩
  obtain ⟨pbn, hpb⟩ : ∃ b : Nat, h.pb = (b : Int) := ⟨h.pb.toNat, by have := hm.2.2.2.1; omega⟩
  have hN2 : N < 18446744073709551616 := by have := hf.2.2.2.2.2.2; omega
  have hp1 : 1 ≤ pbn := by have := hm.2.2.2.1; omega
  have hp4 : pbn ≤ 4 := by have := hm.2.2.2.2.1; omega
  have hpn4 : 4 ≤ pbn + n := by omega
  have HK := Lib.hid hk
  have HH : Hid (Blk16 H) := Lib.hid ⟨hk.h, hk.bh⟩
  have HKK : Hid (Blk16 K) := Lib.hid ⟨hk.k, hk.bk⟩
  have HI : Hid (I.length = 12) := Lib.hid hk.i
  have HN := Lib.hid hn
  have HPL := Lib.hid hpl
  have HMY := Lib.hid (fun w => may_any h A1 c1 A2 c2 A3 c3 w hf)
  have hle := put_lens hm ((n : Int) + 16)
  have hby := put_byt hf hm ((n : Int) + 16) (by omega) (by omega) (by omega)
  obtain ⟨at_, hat⟩ : ∃ a, (h.put ((n : Int) + 16)).length = a + pbn := ⟨(h.put ((n : Int) + 16)).length - pbn, by omega⟩
  have ha1 : 1 ≤ at_ := by omega
  have ha2 : at_ ≤ 3150 := by omega
  have HPY := Lib.hid (fun (w' : World) (a1 : Rd w'.heap.size .u8 w' A1 h.dst) (a2 : Rd w'.heap.size .u8 w' A2 h.src) (a3 : Rd w'.heap.size .u8 w' A3 h.tok) => put_yes h A1 c1 A2 c2 A3 c3 ((n : Int) + 16) w' hf hm (by omega) (by omega) a1 a2 a3 (by omega))
  have HPK : Hid (pktL K I H h plain = protL (h.put ((n : Int) + 16) ++ gsealL K (nonL I N) (h.put ((n : Int) + 16)) plain) (maskL H (h.put ((n : Int) + 16) ++ gsealL K (nonL I N) (h.put ((n : Int) + 16)) plain) at_) at_ (bitsI h.space) pbn) := Lib.hid (by
    unfold pktL boxL_ atN
    rw [hn, hN, hpb, Int.toNat_natCast, Int.toNat_natCast, hat, Nat.add_sub_cancel])
  have HXL := Lib.hid hat
  have HXB := Lib.hid hby
  have HEL : Hid ((gsealL K (nonL I N) (h.put ((n : Int) + 16)) plain).length = n + 16) := Lib.hid (by rw [gsealL_len HKK.out (nonL_len HI.out N) (nonL_byt I N), hn])
  have HEB := Lib.hid (gsealL_byt K (nonL I N) (h.put ((n : Int) + 16)) plain)
  have HGS := Lib.hid (fun (A : Option Addr) (c : Nat) (w' : World) (a1 : Rd w'.heap.size .u8 w' A (h.put ((n : Int) + 16))) (a2 : Rd w'.heap.size .u8 w' A4 plain) => gseal_any (at_ + pbn) c n c4 A A4 K (nonL I N) (h.put ((n : Int) + 16)) plain w' HKK.out (nonL_len HI.out N) (nonL_byt I N) hat hn hby (by omega) (by omega) a1 a2)
  have HC := Lib.hid (fun (w' : World) (g : Nat) (b : Blk w' g 30 (HV h A1 c1 A2 c2 A3 c3)) => hv_cells b hN hpb)
  have R1 := Lib.hid r1
  have R2 := Lib.hid r2
  have R3 := Lib.hid r3
  have R4 := Lib.hid r4
  have HMM := Lib.hid hm
  obtain ⟨sp, hsp⟩ : ∃ sp, h.space = sp := ⟨_, rfl⟩
  rw [hsp] at HPK HC
  generalize h.put ((n : Int) + 16) = X at *
  generalize gsealL K (nonL I N) X plain = E at *
  have B0 : Hid (Below w.heap.size w ((w.alloc (.cells (kyL S K I H p).toArray 27)).alloc (.cells (HV h A1 c1 A2 c2 A3 c3) 30))) := Lib.hid (((Below.refl _ _).alloc (Nat.le_refl _) _).alloc (by simp) _)
  have K0 : Hid (KH w.heap.size (w.heap.size + 1) S K I H p (HV h A1 c1 A2 c2 A3 c3) ((w.alloc (.cells (kyL S K I H p).toArray 27)).alloc (.cells (HV h A1 c1 A2 c2 A3 c3) 30))) := Lib.hid ⟨(Blk.new w 27 (kyL S K I H p).toArray).alloc _, blk_new_at (by simp)⟩
  have L14 := Lib.hid (hv_load K0.out.h)
  clear hk hf hn hpl hle hby hat htok r1 r2 r3 r4 h4 hN hpb hsp
  go_enter Try.func7, Try.ntmps7
  go_wp2_with ((with_reducible (show wpList _ _ _ (⟨some 14, .load _ _, _, _, _, _⟩ :: _) _ _)); refine wpList_loadV (o := ⟨some 14, .load _ _, _, _, _, _⟩) rfl _ rfl rfl (L14.out) ?_)
  refine Calls.mono (HMY.out _) ?_
  rintro e w2 ⟨rfl, hb2⟩
  rw [decide_eq_true hm]
  obtain ⟨gk, hgk⟩ : ∃ gk, w.heap.size = gk := ⟨_, rfl⟩
  have K2 := Lib.hid (K0.out.all hb2)
  have B2 := Lib.hid (B0.out.trans (hb2.mono B0.out.size))
  clear hb2 L14 K0 B0 hm
  rw [hgk] at K2 ⊢
  have L30 := Lib.hid (hv_load K2.out.h)
  obtain ⟨q0, q5, q6⟩ := HC.out _ _ K2.out.h
  go_wp2_with ((with_reducible (show wpList _ _ _ (⟨some 30, .load _ _, _, _, _, _⟩ :: _) _ _)); refine wpList_loadV (o := ⟨some 30, .load _ _, _, _, _, _⟩) rfl _ rfl rfl (L30.out) ?_)
  refine Calls.mono (HPY.out _ ((R1.out.below B2.out (Nat.le_refl _)).mono B2.out.size) ((R2.out.below B2.out (Nat.le_refl _)).mono B2.out.size) ((R3.out.below B2.out (Nat.le_refl _)).mono B2.out.size)) ?_
  rintro e w3 ⟨A8, n8, c8, rfl, o8, b8⟩
  obtain rfl : n8 = at_ + pbn := by rw [o8.len, HXL.out]
  have O8 := Lib.hid o8
  have K3 := Lib.hid (K2.out.all b8)
  have B3 := Lib.hid (B2.out.trans (b8.mono B2.out.size))
  have hz2 := K2.out.lt
  have hz3 := b8.size
  clear o8 b8 L30 K2 B2 q0 q5 q6
  obtain ⟨q0, q5, q6⟩ := HC.out _ _ K3.out.h
  go_wp2_with fail
  have p5 : ∀ r : CW (fun v : World => KH gk (gk + 1) S K I H p (HV h A1 c1 A2 c2 A3 c3) v), r.world.cell? ⟨gk + 1, 5, none⟩ = some (.int .u64 N) := fun r => (HC.out _ _ r.holds.h).2.1
  have hne2 : Nonempty (CW (fun v : World => KH gk (gk + 1) S K I H p (HV h A1 c1 A2 c2 A3 c3) v)) := CW.inh K3.out
  refine wp_region_mix_class (fun v : World => KH gk (gk + 1) S K I H p (HV h A1 c1 A2 c2 A3 c3) v) [([0, 1, 2, 3, 4, 5, 7, 8], 6), ([], 9), ([], 10)] [11] (by kernel_rfl) (by kernel_rfl) (by kernel_rfl) (by kernel_rfl) (K3.out.to (Below.refl w3.heap.size w3).drew K3.out.lt.1 K3.out.lt.2) ?_
  simp only [pickL, List.map_cons, List.map_nil, List.filterMap_cons, List.filterMap_nil, List.getElem?_cons_succ, List.getElem?_cons_zero]
  refine mixS_cons ?_
  show wpQuiet _ _ _ _ (_ :: _) _
  go_big_quiet_step (fail)
  show wpQuiet _ _ _ _ (_ :: _) _
  go_big_quiet_step (fail)
  show wpQuiet _ _ _ _ (_ :: _) _
  refine wpQuiet_loadV (o := ⟨some 47, _, _, _, _, _⟩) rfl _ rfl rfl (fun w' hw' => by obtain ⟨r, rfl⟩ := hw'; exact ky_load1 HK.out r.holds.k) ?_
  simp only [Act.put, List.setIfInBounds_toArray, List.set_cons_zero, List.set_cons_succ]
  show wpQuiet _ _ _ _ (_ :: _) _
  refine wpQuiet_loadV (o := ⟨some 48, _, _, _, _, _⟩) rfl _ rfl rfl (fun w' hw' => by obtain ⟨r, rfl⟩ := hw'; exact ky_load HK.out r.holds.k) ?_
  simp only [Act.put, List.setIfInBounds_toArray, List.set_cons_zero, List.set_cons_succ]
  repeat (show wpQuiet _ _ _ _ (_ :: _) _; go_big_quiet_step (fail))
  refine wpQuiet_nil ?_
  show wpList _ _ _ [_] _ _
  go_wp2_with fail
  have D3 := (Below.refl w3.heap.size w3).drew
  refine Calls.mono (nonce_any S K I H p N _ HK.out hN2) ?_
  rintro e w4 ⟨rfl, hb4⟩
  have B4 := Lib.hid (D3.trans hb4)
  have K4 := Lib.hid (K3.out.all B4.out)
  clear hb4
  go_wp2_with fail
  refine MixQ.class K4.out ?_
  refine mixS_cons ?_
  refine wpQuiet_nil ?_
  show wpList _ _ _ [_] _ _
  go_wp2_with fail
  have hz4 := B4.out.size
  refine Calls.mono (HGS.out A8 c8 _ (O8.out.below B4.out).rd ((R4.out.below B3.out (Nat.le_refl _)).mono B3.out.size |>.below B4.out (Nat.le_refl _) |>.mono hz4)) ?_
  rintro e w5 ⟨A9, n9, c9, rfl, o9, b9⟩
  obtain rfl : n9 = n + 16 := by rw [o9.len, HEL.out]
  have O9 := Lib.hid o9
  have B5 := Lib.hid (B4.out.trans (b9.mono hz4))
  have K5 := Lib.hid (K3.out.all B5.out)
  have O85 := Lib.hid (O8.out.below B5.out)
  have hz5 := B5.out.size
  clear o9 b9
  go_wp2_with fail
  refine MixQ.class K5.out ?_
  refine mixS_cons ?_
  refine wpQuiet_nil ?_
  show wpList _ _ _ [_] _ _
  go_wp2_with (at_builtin; go_loud (refine wpList_app (o := ⟨some 55, _, _, _, _, _⟩) elB8 rfl _ _ rfl rfl rfl O85.out O9.out.rd HEL.out.symm ?_ ?_ ?_; (rw [HXL.out, HEL.out]; omega); (omega); intro A10 n10 c10 w6 q10; have O10 := Lib.hid q10.1; have B6 := Lib.hid (Below.trans (B5.out.mono hz3) q10.2.2.1); clear q10))
  have K6 := Lib.hid (K3.out.to B6.out hz2.1 hz2.2)
  refine MixQ.class K6.out ?_
  refine mixS_nil ?_
  repeat (show wpQuiet _ _ _ _ (_ :: _) _; go_big_quiet_step (fail))
  refine wpQuiet_nil ?_
  refine NoPanic.normal ?_
  have HBL : Hid ((X ++ E).length = at_ + pbn + (n + 16)) := Lib.hid (by rw [List.length_append, HXL.out, HEL.out])
  have HBB : Hid (Byt (X ++ E)) := Lib.hid (HXB.out.append HEB.out)
  obtain ⟨g8, rfl, hg8, hg8'⟩ := O10.out.addr (by rw [O10.out.len, HBL.out]; omega)
  obtain rfl : n10 = at_ + pbn + (n + 16) := by rw [O10.out.len, HBL.out]
  have hcap := O10.out.cap.1
  have W6 := Lib.hid (B3.out.trans (B6.out.mono (show w.heap.size ≤ w2.heap.size by omega)))
  have L56 := Lib.hid (ky_load HK.out K6.out.k)
  have HMO : Hid (Blk16 (maskL H (X ++ E) at_)) := Lib.hid (maskL_ok HH.out HBB.out (by rw [HBL.out]; omega))
  clear O9 B4 B5 K4 K5 O85 p5 hne2 K3 B3 O8 q0 q5 q6
  go_wp2_with ((with_reducible (show wpList _ _ _ (⟨some 56, .load _ _, _, _, _, _⟩ :: _) _ _)); refine wpList_loadV (o := ⟨some 56, .load _ _, _, _, _, _⟩) rfl _ rfl rfl (L56.out) ?_)
  refine Calls.mono (mask_any S K I H (X ++ E) p (some ⟨g8, 0, none⟩) _ c10 at_ _ HK.out HBL.out HBB.out hcap (by omega) (by omega) O10.out.rd) ?_
  rintro e w7 ⟨rfl, hb7⟩
  have O7 := Lib.hid (O10.out.below hb7)
  have K7 := Lib.hid (K6.out.all hb7)
  have W7 := Lib.hid (W6.out.trans (hb7.mono W6.out.size))
  have hz7 := hb7.size
  clear hb7 O10 K6 W6 L56 B6
  generalize hB : X ++ E = B at *
  generalize maskL H B at_ = M at *
  go_wp2_with ((with_reducible (show wpList _ _ _ (⟨none, .store 23 _ _, _, _, _, _⟩ :: _) _ _)); go_loud (refine wpList_storeArr (o := ⟨none, .store 23 _ _, _, _, _, _⟩) (g := w7.heap.size) (t := 23) (k := .u8) (xs := M) (n := 16) rfl _ _ rfl rfl rfl (Blk.new _ _ _) size16 HMO.out.1.symm rfl ?_; intro w9 ha9 hg9; have HA9 := Lib.hid ha9; have HB9 := Lib.hid (((Below.refl w7.heap.size w7).alloc (Nat.le_refl _) _).trans (below_of_only hg9 (Nat.le_refl _) (by simp))); clear ha9 hg9))
  have O9 := Lib.hid (O7.out.below HB9.out)
  have K9 := Lib.hid (K7.out.all HB9.out)
  have W9 := Lib.hid (W7.out.trans (HB9.out.mono W7.out.size))
  have hz9 := HB9.out.size
  obtain ⟨gm, hgm⟩ : ∃ gm, w7.heap.size = gm := ⟨_, rfl⟩
  rw [hgm] at HA9 ⊢
  have hne : g8 ≠ gm := by omega
  have HPZ := Lib.hid (protL_zero B M at_ (bitsI sp))
  have HPS := Lib.hid (protL_succ B M at_ (bitsI sp))
  have HPLn := Lib.hid (fun j => protL_len B M at_ (bitsI sp) j)
  clear O7 K7 W7 HB9
  have p0 : ∀ r : BW w9.heap.size w9, r.world.cell? ⟨g8, 0, none⟩ = some (.int .u8 (B.getD 0 0)) := fun r => (O9.out.below r.below).cell0 (by rw [HBL.out]; omega)
  have p1 : ∀ r : BW w9.heap.size w9, r.world.cell? ⟨gm, 0, none⟩ = some (.int .u8 (M.getD 0 0)) := fun r => (HA9.out.belowAll r.below).cell (by rw [HMO.out.1]; decide)
  have p2 : ∀ r : BW w9.heap.size w9, r.world.cell? ⟨gk + 1, 0, none⟩ = some (.int .u8 sp) := fun r => (HC.out _ _ (K9.out.all r.below).h).1
  have f1 := O9.out.frozen 0
  have q1 : w9.cell? ⟨g8, 0, none⟩ = some (.int .u8 (B.getD 0 0)) := p0 ⟨w9, Below.refl _ _⟩
  obtain ⟨x0, x1⟩ := HMO.out.2.getD 0
  have HO0 : Hid (∀ v : World, Own w2.heap.size 5 .u8 v (some ⟨g8, 0, none⟩) (at_ + pbn + (n + 16)) c10 B → Own w2.heap.size 5 .u8 (v.setCell ⟨g8, 0, none⟩ (.int .u8 (bits .xor .u8 (B.getD 0 0) (bits .and .u8 (M.getD 0 0) (bitsI sp))))) (some ⟨g8, 0, none⟩) (at_ + pbn + (n + 16)) c10 (protL B M at_ (bitsI sp) 0)) := Lib.hid (fun v h => (Own.set_ h 0 _).cast HPZ.out.symm)
  have D9 := Lib.hid (Below.refl w9.heap.size w9).drew
  generalize B.getD 0 0 = x at *
  generalize hy : M.getD 0 0 = y at *
  clear hy
  obtain ⟨cb, hcb⟩ : ∃ cb, bitsI sp = cb := ⟨_, rfl⟩
  refine wp_region_mixOB w9.heap.size [([0, 1, 2, 3, 4, 5, 6], 7), ([8, 9, 10], 11)] (by kernel_rfl) (by kernel_rfl) (by kernel_rfl) (by kernel_rfl) (by kernel_rfl) ?_
  try (rw [put_none])
  simp only [pickL, List.map_cons, List.map_nil, List.filterMap_cons, List.filterMap_nil, List.getElem?_cons_succ, List.getElem?_cons_zero]
  refine mixO_cons ?_
  repeat (show wpQuiet _ _ _ _ (_ :: _) _; go_big_quiet_step (fail))
  refine wpQuiet_nil ?_
  show wpList _ _ _ [_] _ _
  go_wp2_with fail
  refine Calls.mono (kbits_any sp _) ?_
  rintro e w10 ⟨rfl, rfl⟩
  obtain ⟨z0, z1⟩ := bitsI_u sp
  rw [hcb] at z0 z1 HO0 HPZ HPS HPLn ⊢
  go_wp2_with fail
  refine MixO.narrowB D9.out D9.out.size ?_
  refine mixO_cons ?_
  repeat (show wpQuiet _ _ _ _ (_ :: _) _; go_big_quiet_step (fail))
  refine wpQuiet_nil ?_
  show wpList _ _ _ [_] _ _
  go_wp2_with fail
  refine MixO.last ?_
  refine mixO_nil ?_
  refine wpQuiet_nil ?_
  refine NoPanic.normal ?_
  have O11 : Hid (Own w2.heap.size 5 .u8 (w9.setCell ⟨g8, 0, none⟩ (.int .u8 (bits .xor .u8 x (bits .and .u8 y cb)))).drew (some ⟨g8, 0, none⟩) (at_ + pbn + (n + 16)) c10 (protL B M at_ cb 0)) := Lib.hid (Own.drew (HO0.out w9 O9.out))
  have A11 : Hid (Arr (w9.setCell ⟨g8, 0, none⟩ (.int .u8 (bits .xor .u8 x (bits .and .u8 y cb)))).drew gm 23 .u8 M) := Lib.hid (Arr.drew (HA9.out.far (Ne.symm hne) _))
  have W11 : Hid (Below w.heap.size w (w9.setCell ⟨g8, 0, none⟩ (.int .u8 (bits .xor .u8 x (bits .and .u8 y cb)))).drew) := Lib.hid ((W9.out.setCell (p := ⟨g8, 0, none⟩) (by show w.heap.size ≤ g8; omega) _).drew)
  have q6 : (w9.setCell ⟨g8, 0, none⟩ (.int .u8 (bits .xor .u8 x (bits .and .u8 y cb)))).cell? ⟨gk + 1, 6, none⟩ = some (.int .i64 pbn) := (HC.out _ _ (Blk.far K9.out.h (p := ⟨g8, 0, none⟩) (by show gk + 1 ≠ g8; omega) _)).2.2
  clear p0 p1 p2 f1 q1 O9 HA9 W9 HO0 K9
  go_wp2_with fail
  generalize (w9.setCell ⟨g8, 0, none⟩ (.int .u8 (bits .xor .u8 x (bits .and .u8 y cb)))).drew = w11 at *
  clear q6
  go_loopw [73] (fun ii wr => ∃ j : Nat, j ≤ pbn ∧ ii = .int .i64 j ∧ Hid (Own w2.heap.size 5 .u8 wr (some ⟨g8, 0, none⟩) (at_ + pbn + (n + 16)) c10 (protL B M at_ cb j)) ∧ Hid (Arr wr gm 23 .u8 M) ∧ Hid (Below w.heap.size w wr)) (fun ii _ => pbn - (intOf ii).toNat)
  case atStart => exact ⟨0, by omega, rfl, O11, A11, W11⟩
  case round =>
    clear O11 A11 W11
    obtain ⟨j, hj, rfl, HO, HA, HW⟩ := hrel
    by_cases hlt : j < pbn
    · have p1 : ∀ r : BW wr.heap.size wr, r.world.cell? ⟨g8, at_ + j, none⟩ = some (.int .u8 ((protL B M at_ cb j).getD (at_ + j) 0)) := fun r => (HO.out.below r.below).cell0 (by rw [HPLn.out, HBL.out]; omega)
      have p2 : ∀ r : BW wr.heap.size wr, r.world.cell? ⟨gm, 1 + j, none⟩ = some (.int .u8 (M.getD (1 + j) 0)) := fun r => (HA.out.belowAll r.below).cell (by rw [HMO.out.1]; omega)
      have f1 := HO.out.frozen (at_ + j)
      have q1 : wr.cell? ⟨g8, at_ + j, none⟩ = some (.int .u8 ((protL B M at_ cb j).getD (at_ + j) 0)) := p1 ⟨wr, Below.refl _ _⟩
      have HS := Lib.hid (HPS.out j).symm
      have e1 : ((at_ : Int) + (j : Int)).toNat = at_ + j := by omega
      have e2 : (1 + (j : Int)).toNat = 1 + j := by omega
      generalize hL : (protL B M at_ cb j).getD (at_ + j) 0 = x2 at *
      generalize hM : M.getD (1 + j) 0 = y2 at *
      clear hL hM
      go_wp2_with fail
      refine wp_region_mixOB wr.heap.size [([0, 1, 2, 3, 4, 5, 6, 7, 8, 9, 10, 11], 12)] (by kernel_rfl) (by kernel_rfl) (by kernel_rfl) (by kernel_rfl) (by kernel_rfl) ?_
      try (rw [put_none])
      simp only [pickL, List.map_cons, List.map_nil, List.filterMap_cons, List.filterMap_nil, List.getElem?_cons_succ, List.getElem?_cons_zero]
      refine mixO_cons ?_
      repeat (show wpQuiet _ _ _ _ (_ :: _) _; go_big_quiet_step (fail))
      refine wpQuiet_nil ?_
      show wpList _ _ _ [_] _ _
      go_wp2_with fail
      refine MixO.last ?_
      refine mixO_nil ?_
      refine wpQuiet_nil ?_
      refine NoPanic.normal ?_
      have HO9 : Hid (Own w2.heap.size 5 .u8 (wr.drew.setCell ⟨g8, at_ + j, none⟩ (.int .u8 (bits .xor .u8 x2 y2))) (some ⟨g8, 0, none⟩) (at_ + pbn + (n + 16)) c10 (protL B M at_ cb (j + 1))) := Lib.hid ((Own.set_ (w := wr.drew) HO.out (at_ + j) _).cast HS.out)
      have HA9 : Hid (Arr (wr.drew.setCell ⟨g8, at_ + j, none⟩ (.int .u8 (bits .xor .u8 x2 y2))) gm 23 .u8 M) := Lib.hid ((Arr.drew HA.out).far (Ne.symm hne) _)
      have HW9 : Hid (Below w.heap.size w (wr.drew.setCell ⟨g8, at_ + j, none⟩ (.int .u8 (bits .xor .u8 x2 y2)))) := Lib.hid (HW.out.drew.setCell (p := ⟨g8, at_ + j, none⟩) (by show w.heap.size ≤ g8; omega) _)
      clear p1 p2 f1 q1 HS HO HA HW
      go_wp2_with fail
      go_roundw
      case rel => exact ⟨j + 1, by omega, by go_num, HO9, HA9, HW9⟩
      case measure => simp [intOf]; omega
    · have HF : Hid (RetOwn2 5 .u8 (pktL K I H h plain) (.int .i64 0) w (.returned (.tuple #[.slice (some ⟨g8, 0, none⟩) (at_ + pbn + (n + 16)) c10, .int .i64 0])) wr) := Lib.hid (by
        have ho := HO.out.mono (show w.heap.size ≤ w2.heap.size by omega)
        rw [show j = pbn by omega] at ho
        rw [HPK.out, hcb]
        exact ⟨_, _, _, rfl, ho, HW.out⟩)
      clear HO HA HW
      go_wp2_with fail
      go_ret2
      exact HF.out
end Go.Proofs.Ythpacdondnenmaa
namespace Go.Proofs.Ythpacdondnenmaa
open Go.Joins Go.ChangeShapes Go.WideShapes Go.RowKit Go.Deep
theorem arr_trod {H : Type} {enc : TypeId × Value → H} {P : Program} {w : World} {base : Nat} {spare : Nat → Bool} {held : Bool} {t e : TypeId} {n fuel : Nat} {cs : List Value} {x : DataW H × List MemPlace}
    (ht : P.underlying t = some (.array n e)) (he : P.underlying e = some (.int .u8)) (cE : P.cellsOf e = 1) (cT : P.cellsOf t = n) (h : DataW.trod enc P w base spare held fuel t cs = some x) :
    ∃ S : List Int, cs = iv .u8 S ∧ S.length = n ∧ Byt S := by
  obtain ⟨xs, m, _, _, hcs, hlen, hg⟩ := DataW.trod_array ht h
  rw [cT] at hcs
  have each : ∀ y ∈ cs, ∃ z : Int, y = .int .u8 z ∧ (Lit.int .u8 z).wf = true := by
    intro y hy
    obtain ⟨i, hi, rfl⟩ := List.mem_iff_getElem.1 hy
    have h1 := hg i (by omega)
    rw [cE, Nat.mul_one] at h1
    have hxi : xs[i]? = some (xs[i]'(by omega)) := List.getElem?_eq_getElem _
    rw [hxi] at h1
    obtain ⟨z, hz, _, hw⟩ := DataW.trod_int he h1
    refine ⟨z, ?_, hw⟩
    have h2 := congrArg (fun l => l[0]?) hz
    simp only [List.getElem?_take, List.getElem?_drop, Nat.add_zero, Nat.zero_lt_one, if_true, List.getElem?_cons_zero] at h2
    rw [List.getElem?_eq_getElem hi] at h2
    exact Option.some.inj h2
  refine ⟨cs.map intOf, ?_, by simpa using hcs, ?_⟩
  · unfold iv
    rw [List.map_map]
    conv => lhs; rw [← List.map_id cs]
    apply List.map_congr_left
    intro y hy
    obtain ⟨z, rfl, _⟩ := each y hy
    rfl
  · intro x hx
    obtain ⟨y, hy, rfl⟩ := List.mem_map.1 hx
    obtain ⟨z, rfl, hw⟩ := each y hy
    have := bounds_u8 hw
    simp only [intOf]
    omega
theorem cut5 {α : Type} (l : List α) (hl : l.length = 77) : l = (l.drop 0).take 32 ++ ((l.drop 32).take 16 ++ ((l.drop 48).take 12 ++ ((l.drop 60).take 16 ++ (l.drop 76).take 1))) := by
  have h1 : ∀ a b : Nat, (l.drop a).take b ++ l.drop (a + b) = l.drop a := fun a b => by rw [← List.drop_drop]; exact List.take_append_drop b (l.drop a)
  have h5 : (l.drop 76).take 1 = l.drop 76 := List.take_of_length_le (by rw [List.length_drop]; omega)
  rw [h5, h1 60 16, h1 48 12, h1 32 16, h1 0 32, List.drop_zero]
set_option maxRecDepth 100000 in
theorem keys_open {H : Type} {enc : TypeId × Value → H} {w : World} {base : Nat} {held : Bool} {r : Reach} {b0 : Nat} {v : Value} {d : DataW H} {p : List MemPlace} (hv : Value.okWide Try.prog w r b0 27 v)
    (h : DataW.Trod enc Try.prog w base (fun _ => true) held 27 v d p) : ∃ S K I HP q, v = kyV S K I HP q ∧ KyOk S K I HP ∧ 0 ≤ q ∧ q < 18446744073709551616 := by
  have hs := Try.underlying27
  obtain ⟨cs, rfl, hsz⟩ := okWide_struct hs hv
  obtain ⟨fuel, hf⟩ := h
  obtain ⟨xs, n, _, hx, hcl, hlen, hg⟩ := DataW.trod_struct hs hf
  have e77 : Try.prog.cellsOf 27 = 77 := by kernel_rfl
  have hcl2 : cs.toList.length = 77 := by rw [Array.length_toList, hsz, e77]
  match xs, hlen with
  | [y0, y1, y2, y3, y4], _ =>
    have g0 := hg 0 _ rfl
    have g1 := hg 1 _ rfl
    have g2 := hg 2 _ rfl
    have g3 := hg 3 _ rfl
    have g4 := hg 4 _ rfl
    obtain ⟨S, eS, lS, bS⟩ := arr_trod Try.underlying22 Try.underlying5 (by kernel_rfl) (by kernel_rfl) g0
    obtain ⟨K, eK, lK, bK⟩ := arr_trod Try.underlying23 Try.underlying5 (by kernel_rfl) (by kernel_rfl) g1
    obtain ⟨I, eI, lI, bI⟩ := arr_trod Try.underlying24 Try.underlying5 (by kernel_rfl) (by kernel_rfl) g2
    obtain ⟨HP, eH, lH, bH⟩ := arr_trod Try.underlying23 Try.underlying5 (by kernel_rfl) (by kernel_rfl) g3
    obtain ⟨q, eq, _, wq⟩ := DataW.trod_int Try.underlying25 g4
    have bq := bounds_u64 wq
    refine ⟨S, K, I, HP, q, ?_, ⟨lS, lK, lI, lH, bS, bK, bI, bH⟩, by omega, by omega⟩
    unfold kyV kyL
    congr 1
    apply Array.toList_inj.1
    rw [List.toList_toArray, ← eS, ← eK, ← eI, ← eH, ← eq]
    exact cut5 cs.toList hcl2
end Go.Proofs.Ythpacdondnenmaa
