/- Walk: the law RetryPackets, the second half. Conditions: as each theorem states them. -/
import Derived.Test.YtieabfifaigjdaaF29
namespace Go.Proofs.Ytieabfifaigjdaa
open Go.RowKit
attribute [local irreducible] pktL tagP pkDst pkSrc pkTok
set_option maxRecDepth 100000 in
set_option maxHeartbeats 8000000 in
theorem packets_good_no (A1 A2 A3 A4 A5 : Option Addr) (n1 n2 n3 n4 n5 c1 c2 c3 c4 c5 : Nat) (dst src tok b orig : List Int) (w : World) (hr1 : Rd w.heap.size .u8 w A1 dst) (hb1 : Byt dst) (hc1 : n1 ≤ c1) (hn1 : dst.length = n1) (hr2 : Rd w.heap.size .u8 w A2 src) (hb2 : Byt src) (hc2 : n2 ≤ c2) (hn2 : src.length = n2) (hr3 : Rd w.heap.size .u8 w A3 tok) (hb3 : Byt tok) (hc3 : n3 ≤ c3) (hn3 : tok.length = n3)
    (hr4 : Rd w.heap.size .u8 w A4 b) (hb4 : Byt b) (hc4 : n4 ≤ c4) (hn4 : b.length = n4) (hr5 : Rd w.heap.size .u8 w A5 orig) (hb5 : Byt orig) (hc5 : n5 ≤ c5) (hn5 : orig.length = n5) (hs : n1 + n2 + n3 + n5 ≤ 300) (hs4 : n4 ≤ 300) (hcond : ¬ (n5 ≤ 20 ∧ ∃ d s, PkOk b orig d s)) (y1 : n1 ≤ 20) (y2 : n2 ≤ 20) (y5 : n5 ≤ 20) (y3 : 0 < n3) :
    Calls Try.prog 3 #[.agg #[.slice A1 n1 c1, .slice A2 n2 c2, .slice A3 n3 c3], .slice A4 n4 c4, .slice A5 n5 c5] w fun e w' => e = .returned (.bool true) ∧ Below w.heap.size w w' := by
  have HNO := Lib.hid hcond
  clear hcond
  have R1 := Lib.hid hr1
  have HB1 := Lib.hid hb1
  have C1 := Lib.hid hc1
  have N1 := Lib.hid hn1
  have R2 := Lib.hid hr2
  have HB2 := Lib.hid hb2
  have C2 := Lib.hid hc2
  have N2 := Lib.hid hn2
  have R3 := Lib.hid hr3
  have HB3 := Lib.hid hb3
  have C3 := Lib.hid hc3
  have N3 := Lib.hid hn3
  have R4 := Lib.hid hr4
  have HB4 := Lib.hid hb4
  have C4 := Lib.hid hc4
  have N4 := Lib.hid hn4
  have R5 := Lib.hid hr5
  have HB5 := Lib.hid hb5
  have C5 := Lib.hid hc5
  have N5 := Lib.hid hn5
  have B0 := Lib.hid ((Below.refl w.heap.size w).alloc (Nat.le_refl _) (.cells #[.slice A1 n1 c1, .slice A2 n2 c2, .slice A3 n3 c3] 24))
  have Z0 : Hid (Blk (w.alloc (.cells #[.slice A1 n1 c1, .slice A2 n2 c2, .slice A3 n3 c3] 24)) w.heap.size 24 #[.slice A1 n1 c1, .slice A2 n2 c2, .slice A3 n3 c3]) := Lib.hid (Blk.new _ _ _)
  obtain ⟨p0, p1, p2⟩ := pk_facts Z0.out
  have d300 : decide ((300 : Int) < (n1 : Int) + n2 + n3 + n5) = false := decide_eq_false (by omega)
  have d301 : decide ((300 : Int) < (n4 : Int)) = false := decide_eq_false (by omega)
  clear hr1 hb1 hc1 hn1 hr2 hb2 hc2 hn2 hr3 hb3 hc3 hn3 hr4 hb4 hc4 hn4 hr5 hb5 hc5 hn5
  have HIDSX := Lib.hid True.intro
  have d1 : decide ((n1 : Int) ≤ 20) = true := decide_eq_true (by omega)
  have d2 : decide ((n2 : Int) ≤ 20) = true := decide_eq_true (by omega)
  have d5 : decide ((n5 : Int) ≤ 20) = true := decide_eq_true (by omega)
  have d3 : decide ((0 : Int) < (n3 : Int)) = true := decide_eq_true (by omega)
  have HLB := Lib.hid (pktL_byt_ orig HB1.out HB2.out HB3.out (by rw [N1.out]; exact y1) (by rw [N2.out]; exact y2))
  go_enter Try.func3, Try.ntmps3
  go_wp2_with ((with_reducible (show wpList _ _ _ (⟨some 37, .load _ _, _, _, _, _⟩ :: _) _ _)); refine wpList_loadV (o := ⟨some 37, .load _ _, _, _, _, _⟩) rfl _ rfl rfl (blk_load (P := Try.prog) Z0.out Try.underlying24 rfl size3p) ?_)
  clear p0 p1 p2 d300 d301 HIDSX
  generalize w.alloc (.cells #[.slice A1 n1 c1, .slice A2 n2 c2, .slice A3 n3 c3] 24) = w0 at *
  have hz0 := B0.out.size
  refine Calls.mono (put_yes A1 A2 A3 A5 n1 n2 n3 n5 c1 c2 c3 c5 dst src tok orig w0 N1.out N2.out N3.out N5.out ((R1.out.below B0.out (Nat.le_refl _)).mono hz0) ((R2.out.below B0.out (Nat.le_refl _)).mono hz0) ((R3.out.below B0.out (Nat.le_refl _)).mono hz0) ((R5.out.below B0.out (Nat.le_refl _)).mono hz0) HB1.out HB2.out HB3.out HB5.out y1 y2 y5 y3 (by omega) C1.out C2.out C3.out C5.out) ?_
  rintro e w3 ⟨A6, n6, c6, rfl, o6, b3⟩
  have O6 := Lib.hid o6
  have Z3 := Lib.hid (Z0.out.below b3 Z0.out.lt)
  have B3 := Lib.hid (B0.out.trans (b3.mono hz0))
  have hz3 := B3.out.size
  clear o6 b3 Z0 B0
  obtain ⟨p0, p1, p2⟩ := pk_facts Z3.out
  go_wp2_with fail
  clear p0 p1 p2
  have q0 : ∀ r : BW w3.heap.size w3, r.world.cell? ⟨w.heap.size, 0, none⟩ = some (.slice A1 n1 c1) := fun r => (pk_facts (Z3.out.below r.below Z3.out.lt)).1
  have q1 : ∀ r : BW w3.heap.size w3, r.world.cell? ⟨w.heap.size, 1, none⟩ = some (.slice A2 n2 c2) := fun r => (pk_facts (Z3.out.below r.below Z3.out.lt)).2.1
  have q2 : ∀ r : BW w3.heap.size w3, r.world.cell? ⟨w.heap.size, 2, none⟩ = some (.slice A3 n3 c3) := fun r => (pk_facts (Z3.out.below r.below Z3.out.lt)).2.2
  have hcv : ∀ r : BW w3.heap.size w3, (convert 22 9 (.slice A6 n6 c6)).run Try.prog r.world = .ok (.string (strOfNums (pktL 255 dst src tok orig))) r.world := fun r => conv_own elC Try.underlying9 (O6.out.below r.below)
  refine wp_region_mixN w3.heap.size [([0, 1, 2, 3, 4, 5, 6, 7, 8, 9, 10, 11, 12, 13], 14)] [15, 16, 17, 18, 19, 20, 21, 22, 23, 24, 25, 26, 27, 28, 29, 30, 31] (by kernel_rfl) (by kernel_rfl) (by kernel_rfl) (by kernel_rfl) ?_
  try (rw [put_none])
  simp only [pickL, List.map_cons, List.map_nil, List.filterMap_cons, List.filterMap_nil, List.getElem?_cons_succ, List.getElem?_cons_zero]
  refine mixN_cons ?_
  repeat (show wpQuiet _ _ _ _ (_ :: _) _; go_big_quiet_step (fail))
  refine wpQuiet_nil ?_
  show wpList _ _ _ [_] _ _
  go_wp2_with fail
  clear q0 q1 q2 hcv
  have BDR : Hid (Below w3.heap.size w3 w3.drew) := Lib.hid (Below.refl w3.heap.size w3).drew
  refine Calls.mono (rpacket_n 255 A1 A2 A3 A5 n1 n2 n3 n5 c1 c2 c3 c5 dst src tok orig w3.drew N1.out N2.out N3.out N5.out (by decide) (by decide) ((R1.out.below B3.out (Nat.le_refl _)).drew.mono hz3) ((R2.out.below B3.out (Nat.le_refl _)).drew.mono hz3) ((R3.out.below B3.out (Nat.le_refl _)).drew.mono hz3) ((R5.out.below B3.out (Nat.le_refl _)).drew.mono hz3) HB1.out HB2.out HB3.out HB5.out (by rw [N1.out]; exact y1) (by rw [N2.out]; exact y2) (by rw [N3.out]; omega) (by rw [N5.out]; exact y5)) ?_
  generalize pktL 255 dst src tok orig = LL at *
  rintro e w4 ⟨A7, n7, c7, rfl, o7, b4⟩
  have B34 : Hid (Below w3.heap.size w3 w4) := Lib.hid (BDR.out.trans b4)
  have hcv6 : ∀ r : BW w4.heap.size w4, (convert 22 9 (.slice A7 n7 c7)).run Try.prog r.world = .ok (.string (strOfNums LL)) r.world := fun r => conv_own elC Try.underlying9 (o7.below r.below)
  have BZ := Lib.hid (B3.out.trans (B34.out.mono hz3))
  clear o7 b4 BDR Z3 B3 O6
  go_wp2_with fail
  refine MixN.narrow B34.out B34.out.size ?_
  refine mixN_nil ?_
  generalize strOfNums LL = sx at *
  have hsn : (sx.toList != sx.toList) = false := by simp
  repeat (show wpQuiet _ _ _ _ (_ :: _) _; go_big_quiet_step (fail))
  refine wpQuiet_nil ?_
  refine NoPanic.normal ?_
  clear hcv6 hsn B34 HLB
  go_wp2_with fail
  have hz := BZ.out.size
  refine Calls.mono (take_no_all A4 A5 n4 n5 c4 c5 b orig w4 N4.out N5.out ((R4.out.below BZ.out (Nat.le_refl _)).mono hz) ((R5.out.below BZ.out (Nat.le_refl _)).mono hz) HB4.out HB5.out (by omega) C4.out C5.out HNO.out) ?_
  rintro e w7 ⟨rfl, b7⟩
  have BG := Lib.hid (BZ.out.trans (b7.mono hz))
  clear b7 BZ
  go_wp2_with (refine wpList_storeBlk (g := w7.heap.size) (t := 24) (vs := [.slice none 0 0, .slice none 0 0, .slice none 0 0]) rfl _ _ rfl rfl rfl (Blk.new _ _ _) rfl (one3 rfl rfl rfl) size3p ?_; intro w8 k8 g8; have K8 := Lib.hid k8; have G8 := Lib.hid g8; clear k8 g8)
  have E8 : Hid (Below w7.heap.size w7 w8) := Lib.hid (((Below.refl w7.heap.size w7).alloc (Nat.le_refl _) _).trans (below_of_only G8.out (Nat.le_refl _) (by simp)))
  have BH := Lib.hid (BG.out.trans (E8.out.mono BG.out.size))
  have hz8 := BH.out.size
  clear G8
  refine Calls.mono (rtake_no_all A4 A5 n4 n5 c4 c5 b orig w8 N4.out N5.out ((R4.out.below BH.out (Nat.le_refl _)).mono hz8) ((R5.out.below BH.out (Nat.le_refl _)).mono hz8) HB4.out HB5.out (by omega) C4.out HNO.out) ?_
  rintro e w9 ⟨rfl, b9⟩
  have BK := Lib.hid (BH.out.trans (b9.mono hz8))
  obtain ⟨f0, f1, f2⟩ := pk_facts (K8.out.below b9 K8.out.lt)
  have cvn := conv_n_ (B := w9.heap.size) (w := w9) (A := none) (xs := []) (n := 0) Rd.nil rfl 0
  generalize strOfNums [] = sn at *
  clear b9 E8 BG BH K8
  go_wp2_with fail
  clear f0 f1 f2 cvn
  refine Calls.mono (works_any _) ?_
  rintro e wz ⟨rfl, bz⟩
  have BL := Lib.hid (BK.out.trans (bz.mono BK.out.size))
  clear bz
  go_wp2_with fail
  go_ret
  exact ⟨rfl, BL.out⟩
set_option maxRecDepth 100000 in
set_option maxHeartbeats 8000000 in
theorem packets_bad0_no (A1 A2 A3 A4 A5 : Option Addr) (n1 n2 n3 n4 n5 c1 c2 c3 c4 c5 : Nat) (dst src tok b orig : List Int) (w : World) (hr1 : Rd w.heap.size .u8 w A1 dst) (hb1 : Byt dst) (hc1 : n1 ≤ c1) (hn1 : dst.length = n1) (hr2 : Rd w.heap.size .u8 w A2 src) (hb2 : Byt src) (hc2 : n2 ≤ c2) (hn2 : src.length = n2) (hr3 : Rd w.heap.size .u8 w A3 tok) (hb3 : Byt tok) (hc3 : n3 ≤ c3) (hn3 : tok.length = n3)
    (hr4 : Rd w.heap.size .u8 w A4 b) (hb4 : Byt b) (hc4 : n4 ≤ c4) (hn4 : b.length = n4) (hr5 : Rd w.heap.size .u8 w A5 orig) (hb5 : Byt orig) (hc5 : n5 ≤ c5) (hn5 : orig.length = n5) (hs : n1 + n2 + n3 + n5 ≤ 300) (hs4 : n4 ≤ 300) (hcond : ¬ (n5 ≤ 20 ∧ ∃ d s, PkOk b orig d s)) (hY : 20 < n1) :
    Calls Try.prog 3 #[.agg #[.slice A1 n1 c1, .slice A2 n2 c2, .slice A3 n3 c3], .slice A4 n4 c4, .slice A5 n5 c5] w fun e w' => e = .returned (.bool true) ∧ Below w.heap.size w w' := by
  have hX : ¬ (n1 ≤ 20 ∧ n2 ≤ 20 ∧ n5 ≤ 20 ∧ 0 < n3) := by omega
  have HNO := Lib.hid hcond
  clear hcond
  have R1 := Lib.hid hr1
  have HB1 := Lib.hid hb1
  have C1 := Lib.hid hc1
  have N1 := Lib.hid hn1
  have R2 := Lib.hid hr2
  have HB2 := Lib.hid hb2
  have C2 := Lib.hid hc2
  have N2 := Lib.hid hn2
  have R3 := Lib.hid hr3
  have HB3 := Lib.hid hb3
  have C3 := Lib.hid hc3
  have N3 := Lib.hid hn3
  have R4 := Lib.hid hr4
  have HB4 := Lib.hid hb4
  have C4 := Lib.hid hc4
  have N4 := Lib.hid hn4
  have R5 := Lib.hid hr5
  have HB5 := Lib.hid hb5
  have C5 := Lib.hid hc5
  have N5 := Lib.hid hn5
  have B0 := Lib.hid ((Below.refl w.heap.size w).alloc (Nat.le_refl _) (.cells #[.slice A1 n1 c1, .slice A2 n2 c2, .slice A3 n3 c3] 24))
  have Z0 : Hid (Blk (w.alloc (.cells #[.slice A1 n1 c1, .slice A2 n2 c2, .slice A3 n3 c3] 24)) w.heap.size 24 #[.slice A1 n1 c1, .slice A2 n2 c2, .slice A3 n3 c3]) := Lib.hid (Blk.new _ _ _)
  obtain ⟨p0, p1, p2⟩ := pk_facts Z0.out
  have d300 : decide ((300 : Int) < (n1 : Int) + n2 + n3 + n5) = false := decide_eq_false (by omega)
  have d301 : decide ((300 : Int) < (n4 : Int)) = false := decide_eq_false (by omega)
  clear hr1 hb1 hc1 hn1 hr2 hb2 hc2 hn2 hr3 hb3 hc3 hn3 hr4 hb4 hc4 hn4 hr5 hb5 hc5 hn5
  have d1 : decide ((n1 : Int) ≤ 20) = false := decide_eq_false (by omega)
  go_enter Try.func3, Try.ntmps3
  go_wp2_with ((with_reducible (show wpList _ _ _ (⟨some 37, .load _ _, _, _, _, _⟩ :: _) _ _)); refine wpList_loadV (o := ⟨some 37, .load _ _, _, _, _, _⟩) rfl _ rfl rfl (blk_load (P := Try.prog) Z0.out Try.underlying24 rfl size3p) ?_)
  clear p0 p1 p2 d300 d301
  generalize w.alloc (.cells #[.slice A1 n1 c1, .slice A2 n2 c2, .slice A3 n3 c3] 24) = w0 at *
  have hz0 := B0.out.size
  refine Calls.mono (put_no A1 A2 A3 A5 n1 n2 n3 n5 c1 c2 c3 c5 w0 hX) ?_
  rintro e w3 ⟨rfl, b3⟩
  have Z3 := Lib.hid (Z0.out.below b3 Z0.out.lt)
  have B3 := Lib.hid (B0.out.trans (b3.mono hz0))
  have hz3 := B3.out.size
  clear b3 Z0 B0
  obtain ⟨p0, p1, p2⟩ := pk_facts Z3.out
  go_wp2_with fail
  clear p0 p1 p2
  refine wp_region_mixN w3.heap.size [([0, 1, 2, 3, 4, 5, 6, 7, 8, 9, 10, 11, 12, 13], 14)] [15, 16, 17, 18, 19, 20, 21, 22, 23, 24, 25, 26, 27, 28, 29, 30, 31] (by kernel_rfl) (by kernel_rfl) (by kernel_rfl) (by kernel_rfl) ?_
  try (rw [put_none])
  simp only [pickL, List.map_cons, List.map_nil, List.filterMap_cons, List.filterMap_nil, List.getElem?_cons_succ, List.getElem?_cons_zero]
  refine mixN_cons ?_
  repeat (show wpQuiet _ _ _ _ (_ :: _) _; go_big_quiet_step (fail))
  refine wpQuiet_nil ?_
  show wpList _ _ _ [_] _ _
  go_wp2_with fail
  have BX : Hid (Below w3.heap.size w3 w3.drew) := Lib.hid (Below.refl w3.heap.size w3).drew
  have BZ := Lib.hid (B3.out.trans (BX.out.mono hz3))
  refine MixN.narrow BX.out BX.out.size ?_
  refine mixN_nil ?_
  repeat (show wpQuiet _ _ _ _ (_ :: _) _; go_big_quiet_step (fail))
  refine wpQuiet_nil ?_
  refine NoPanic.normal ?_
  clear B3 Z3 BX
  go_wp2_with fail
  have hz := BZ.out.size
  refine Calls.mono (take_no_all A4 A5 n4 n5 c4 c5 b orig w3.drew N4.out N5.out ((R4.out.below BZ.out (Nat.le_refl _)).mono hz) ((R5.out.below BZ.out (Nat.le_refl _)).mono hz) HB4.out HB5.out (by omega) C4.out C5.out HNO.out) ?_
  rintro e w7 ⟨rfl, b7⟩
  have BG := Lib.hid (BZ.out.trans (b7.mono hz))
  clear b7 BZ
  go_wp2_with (refine wpList_storeBlk (g := w7.heap.size) (t := 24) (vs := [.slice none 0 0, .slice none 0 0, .slice none 0 0]) rfl _ _ rfl rfl rfl (Blk.new _ _ _) rfl (one3 rfl rfl rfl) size3p ?_; intro w8 k8 g8; have K8 := Lib.hid k8; have G8 := Lib.hid g8; clear k8 g8)
  have E8 : Hid (Below w7.heap.size w7 w8) := Lib.hid (((Below.refl w7.heap.size w7).alloc (Nat.le_refl _) _).trans (below_of_only G8.out (Nat.le_refl _) (by simp)))
  have BH := Lib.hid (BG.out.trans (E8.out.mono BG.out.size))
  have hz8 := BH.out.size
  clear G8
  refine Calls.mono (rtake_no_all A4 A5 n4 n5 c4 c5 b orig w8 N4.out N5.out ((R4.out.below BH.out (Nat.le_refl _)).mono hz8) ((R5.out.below BH.out (Nat.le_refl _)).mono hz8) HB4.out HB5.out (by omega) C4.out HNO.out) ?_
  rintro e w9 ⟨rfl, b9⟩
  have BK := Lib.hid (BH.out.trans (b9.mono hz8))
  obtain ⟨f0, f1, f2⟩ := pk_facts (K8.out.below b9 K8.out.lt)
  have cvn := conv_n_ (B := w9.heap.size) (w := w9) (A := none) (xs := []) (n := 0) Rd.nil rfl 0
  generalize strOfNums [] = sn at *
  clear b9 E8 BG BH K8
  go_wp2_with fail
  clear f0 f1 f2 cvn
  refine Calls.mono (works_any _) ?_
  rintro e wz ⟨rfl, bz⟩
  have BL := Lib.hid (BK.out.trans (bz.mono BK.out.size))
  clear bz
  go_wp2_with fail
  go_ret
  exact ⟨rfl, BL.out⟩
set_option maxRecDepth 100000 in
set_option maxHeartbeats 8000000 in
theorem packets_bad1_no (A1 A2 A3 A4 A5 : Option Addr) (n1 n2 n3 n4 n5 c1 c2 c3 c4 c5 : Nat) (dst src tok b orig : List Int) (w : World) (hr1 : Rd w.heap.size .u8 w A1 dst) (hb1 : Byt dst) (hc1 : n1 ≤ c1) (hn1 : dst.length = n1) (hr2 : Rd w.heap.size .u8 w A2 src) (hb2 : Byt src) (hc2 : n2 ≤ c2) (hn2 : src.length = n2) (hr3 : Rd w.heap.size .u8 w A3 tok) (hb3 : Byt tok) (hc3 : n3 ≤ c3) (hn3 : tok.length = n3)
    (hr4 : Rd w.heap.size .u8 w A4 b) (hb4 : Byt b) (hc4 : n4 ≤ c4) (hn4 : b.length = n4) (hr5 : Rd w.heap.size .u8 w A5 orig) (hb5 : Byt orig) (hc5 : n5 ≤ c5) (hn5 : orig.length = n5) (hs : n1 + n2 + n3 + n5 ≤ 300) (hs4 : n4 ≤ 300) (hcond : ¬ (n5 ≤ 20 ∧ ∃ d s, PkOk b orig d s)) (hY : n1 ≤ 20 ∧ 20 < n2) :
    Calls Try.prog 3 #[.agg #[.slice A1 n1 c1, .slice A2 n2 c2, .slice A3 n3 c3], .slice A4 n4 c4, .slice A5 n5 c5] w fun e w' => e = .returned (.bool true) ∧ Below w.heap.size w w' := by
  have hX : ¬ (n1 ≤ 20 ∧ n2 ≤ 20 ∧ n5 ≤ 20 ∧ 0 < n3) := by omega
  have HNO := Lib.hid hcond
  clear hcond
  have R1 := Lib.hid hr1
  have HB1 := Lib.hid hb1
  have C1 := Lib.hid hc1
  have N1 := Lib.hid hn1
  have R2 := Lib.hid hr2
  have HB2 := Lib.hid hb2
  have C2 := Lib.hid hc2
  have N2 := Lib.hid hn2
  have R3 := Lib.hid hr3
  have HB3 := Lib.hid hb3
  have C3 := Lib.hid hc3
  have N3 := Lib.hid hn3
  have R4 := Lib.hid hr4
  have HB4 := Lib.hid hb4
  have C4 := Lib.hid hc4
  have N4 := Lib.hid hn4
  have R5 := Lib.hid hr5
  have HB5 := Lib.hid hb5
  have C5 := Lib.hid hc5
  have N5 := Lib.hid hn5
  have B0 := Lib.hid ((Below.refl w.heap.size w).alloc (Nat.le_refl _) (.cells #[.slice A1 n1 c1, .slice A2 n2 c2, .slice A3 n3 c3] 24))
  have Z0 : Hid (Blk (w.alloc (.cells #[.slice A1 n1 c1, .slice A2 n2 c2, .slice A3 n3 c3] 24)) w.heap.size 24 #[.slice A1 n1 c1, .slice A2 n2 c2, .slice A3 n3 c3]) := Lib.hid (Blk.new _ _ _)
  obtain ⟨p0, p1, p2⟩ := pk_facts Z0.out
  have d300 : decide ((300 : Int) < (n1 : Int) + n2 + n3 + n5) = false := decide_eq_false (by omega)
  have d301 : decide ((300 : Int) < (n4 : Int)) = false := decide_eq_false (by omega)
  clear hr1 hb1 hc1 hn1 hr2 hb2 hc2 hn2 hr3 hb3 hc3 hn3 hr4 hb4 hc4 hn4 hr5 hb5 hc5 hn5
  obtain ⟨y1, y2⟩ := hY
  have d1 : decide ((n1 : Int) ≤ 20) = true := decide_eq_true (by omega)
  have d2 : decide ((n2 : Int) ≤ 20) = false := decide_eq_false (by omega)
  go_enter Try.func3, Try.ntmps3
  go_wp2_with ((with_reducible (show wpList _ _ _ (⟨some 37, .load _ _, _, _, _, _⟩ :: _) _ _)); refine wpList_loadV (o := ⟨some 37, .load _ _, _, _, _, _⟩) rfl _ rfl rfl (blk_load (P := Try.prog) Z0.out Try.underlying24 rfl size3p) ?_)
  clear p0 p1 p2 d300 d301
  generalize w.alloc (.cells #[.slice A1 n1 c1, .slice A2 n2 c2, .slice A3 n3 c3] 24) = w0 at *
  have hz0 := B0.out.size
  refine Calls.mono (put_no A1 A2 A3 A5 n1 n2 n3 n5 c1 c2 c3 c5 w0 hX) ?_
  rintro e w3 ⟨rfl, b3⟩
  have Z3 := Lib.hid (Z0.out.below b3 Z0.out.lt)
  have B3 := Lib.hid (B0.out.trans (b3.mono hz0))
  have hz3 := B3.out.size
  clear b3 Z0 B0
  obtain ⟨p0, p1, p2⟩ := pk_facts Z3.out
  go_wp2_with fail
  clear p0 p1 p2
  refine wp_region_mixN w3.heap.size [([0, 1, 2, 3, 4, 5, 6, 7, 8, 9, 10, 11, 12, 13], 14)] [15, 16, 17, 18, 19, 20, 21, 22, 23, 24, 25, 26, 27, 28, 29, 30, 31] (by kernel_rfl) (by kernel_rfl) (by kernel_rfl) (by kernel_rfl) ?_
  try (rw [put_none])
  simp only [pickL, List.map_cons, List.map_nil, List.filterMap_cons, List.filterMap_nil, List.getElem?_cons_succ, List.getElem?_cons_zero]
  refine mixN_cons ?_
  repeat (show wpQuiet _ _ _ _ (_ :: _) _; go_big_quiet_step (fail))
  refine wpQuiet_nil ?_
  show wpList _ _ _ [_] _ _
  go_wp2_with fail
  have BX : Hid (Below w3.heap.size w3 w3.drew) := Lib.hid (Below.refl w3.heap.size w3).drew
  have BZ := Lib.hid (B3.out.trans (BX.out.mono hz3))
  refine MixN.narrow BX.out BX.out.size ?_
  refine mixN_nil ?_
  repeat (show wpQuiet _ _ _ _ (_ :: _) _; go_big_quiet_step (fail))
  refine wpQuiet_nil ?_
  refine NoPanic.normal ?_
  clear B3 Z3 BX
  go_wp2_with fail
  have hz := BZ.out.size
  refine Calls.mono (take_no_all A4 A5 n4 n5 c4 c5 b orig w3.drew N4.out N5.out ((R4.out.below BZ.out (Nat.le_refl _)).mono hz) ((R5.out.below BZ.out (Nat.le_refl _)).mono hz) HB4.out HB5.out (by omega) C4.out C5.out HNO.out) ?_
  rintro e w7 ⟨rfl, b7⟩
  have BG := Lib.hid (BZ.out.trans (b7.mono hz))
  clear b7 BZ
  go_wp2_with (refine wpList_storeBlk (g := w7.heap.size) (t := 24) (vs := [.slice none 0 0, .slice none 0 0, .slice none 0 0]) rfl _ _ rfl rfl rfl (Blk.new _ _ _) rfl (one3 rfl rfl rfl) size3p ?_; intro w8 k8 g8; have K8 := Lib.hid k8; have G8 := Lib.hid g8; clear k8 g8)
  have E8 : Hid (Below w7.heap.size w7 w8) := Lib.hid (((Below.refl w7.heap.size w7).alloc (Nat.le_refl _) _).trans (below_of_only G8.out (Nat.le_refl _) (by simp)))
  have BH := Lib.hid (BG.out.trans (E8.out.mono BG.out.size))
  have hz8 := BH.out.size
  clear G8
  refine Calls.mono (rtake_no_all A4 A5 n4 n5 c4 c5 b orig w8 N4.out N5.out ((R4.out.below BH.out (Nat.le_refl _)).mono hz8) ((R5.out.below BH.out (Nat.le_refl _)).mono hz8) HB4.out HB5.out (by omega) C4.out HNO.out) ?_
  rintro e w9 ⟨rfl, b9⟩
  have BK := Lib.hid (BH.out.trans (b9.mono hz8))
  obtain ⟨f0, f1, f2⟩ := pk_facts (K8.out.below b9 K8.out.lt)
  have cvn := conv_n_ (B := w9.heap.size) (w := w9) (A := none) (xs := []) (n := 0) Rd.nil rfl 0
  generalize strOfNums [] = sn at *
  clear b9 E8 BG BH K8
  go_wp2_with fail
  clear f0 f1 f2 cvn
  refine Calls.mono (works_any _) ?_
  rintro e wz ⟨rfl, bz⟩
  have BL := Lib.hid (BK.out.trans (bz.mono BK.out.size))
  clear bz
  go_wp2_with fail
  go_ret
  exact ⟨rfl, BL.out⟩
set_option maxRecDepth 100000 in
set_option maxHeartbeats 8000000 in
theorem packets_bad2_no (A1 A2 A3 A4 A5 : Option Addr) (n1 n2 n3 n4 n5 c1 c2 c3 c4 c5 : Nat) (dst src tok b orig : List Int) (w : World) (hr1 : Rd w.heap.size .u8 w A1 dst) (hb1 : Byt dst) (hc1 : n1 ≤ c1) (hn1 : dst.length = n1) (hr2 : Rd w.heap.size .u8 w A2 src) (hb2 : Byt src) (hc2 : n2 ≤ c2) (hn2 : src.length = n2) (hr3 : Rd w.heap.size .u8 w A3 tok) (hb3 : Byt tok) (hc3 : n3 ≤ c3) (hn3 : tok.length = n3)
    (hr4 : Rd w.heap.size .u8 w A4 b) (hb4 : Byt b) (hc4 : n4 ≤ c4) (hn4 : b.length = n4) (hr5 : Rd w.heap.size .u8 w A5 orig) (hb5 : Byt orig) (hc5 : n5 ≤ c5) (hn5 : orig.length = n5) (hs : n1 + n2 + n3 + n5 ≤ 300) (hs4 : n4 ≤ 300) (hcond : ¬ (n5 ≤ 20 ∧ ∃ d s, PkOk b orig d s)) (hY : n1 ≤ 20 ∧ n2 ≤ 20 ∧ 20 < n5) :
    Calls Try.prog 3 #[.agg #[.slice A1 n1 c1, .slice A2 n2 c2, .slice A3 n3 c3], .slice A4 n4 c4, .slice A5 n5 c5] w fun e w' => e = .returned (.bool true) ∧ Below w.heap.size w w' := by
  have hX : ¬ (n1 ≤ 20 ∧ n2 ≤ 20 ∧ n5 ≤ 20 ∧ 0 < n3) := by omega
  have HNO := Lib.hid hcond
  clear hcond
  have R1 := Lib.hid hr1
  have HB1 := Lib.hid hb1
  have C1 := Lib.hid hc1
  have N1 := Lib.hid hn1
  have R2 := Lib.hid hr2
  have HB2 := Lib.hid hb2
  have C2 := Lib.hid hc2
  have N2 := Lib.hid hn2
  have R3 := Lib.hid hr3
  have HB3 := Lib.hid hb3
  have C3 := Lib.hid hc3
  have N3 := Lib.hid hn3
  have R4 := Lib.hid hr4
  have HB4 := Lib.hid hb4
  have C4 := Lib.hid hc4
  have N4 := Lib.hid hn4
  have R5 := Lib.hid hr5
  have HB5 := Lib.hid hb5
  have C5 := Lib.hid hc5
  have N5 := Lib.hid hn5
  have B0 := Lib.hid ((Below.refl w.heap.size w).alloc (Nat.le_refl _) (.cells #[.slice A1 n1 c1, .slice A2 n2 c2, .slice A3 n3 c3] 24))
  have Z0 : Hid (Blk (w.alloc (.cells #[.slice A1 n1 c1, .slice A2 n2 c2, .slice A3 n3 c3] 24)) w.heap.size 24 #[.slice A1 n1 c1, .slice A2 n2 c2, .slice A3 n3 c3]) := Lib.hid (Blk.new _ _ _)
  obtain ⟨p0, p1, p2⟩ := pk_facts Z0.out
  have d300 : decide ((300 : Int) < (n1 : Int) + n2 + n3 + n5) = false := decide_eq_false (by omega)
  have d301 : decide ((300 : Int) < (n4 : Int)) = false := decide_eq_false (by omega)
  clear hr1 hb1 hc1 hn1 hr2 hb2 hc2 hn2 hr3 hb3 hc3 hn3 hr4 hb4 hc4 hn4 hr5 hb5 hc5 hn5
  obtain ⟨y1, y2, y5⟩ := hY
  have d1 : decide ((n1 : Int) ≤ 20) = true := decide_eq_true (by omega)
  have d2 : decide ((n2 : Int) ≤ 20) = true := decide_eq_true (by omega)
  have d5 : decide ((n5 : Int) ≤ 20) = false := decide_eq_false (by omega)
  go_enter Try.func3, Try.ntmps3
  go_wp2_with ((with_reducible (show wpList _ _ _ (⟨some 37, .load _ _, _, _, _, _⟩ :: _) _ _)); refine wpList_loadV (o := ⟨some 37, .load _ _, _, _, _, _⟩) rfl _ rfl rfl (blk_load (P := Try.prog) Z0.out Try.underlying24 rfl size3p) ?_)
  clear p0 p1 p2 d300 d301
  generalize w.alloc (.cells #[.slice A1 n1 c1, .slice A2 n2 c2, .slice A3 n3 c3] 24) = w0 at *
  have hz0 := B0.out.size
  refine Calls.mono (put_no A1 A2 A3 A5 n1 n2 n3 n5 c1 c2 c3 c5 w0 hX) ?_
  rintro e w3 ⟨rfl, b3⟩
  have Z3 := Lib.hid (Z0.out.below b3 Z0.out.lt)
  have B3 := Lib.hid (B0.out.trans (b3.mono hz0))
  have hz3 := B3.out.size
  clear b3 Z0 B0
  obtain ⟨p0, p1, p2⟩ := pk_facts Z3.out
  go_wp2_with fail
  clear p0 p1 p2
  refine wp_region_mixN w3.heap.size [([0, 1, 2, 3, 4, 5, 6, 7, 8, 9, 10, 11, 12, 13], 14)] [15, 16, 17, 18, 19, 20, 21, 22, 23, 24, 25, 26, 27, 28, 29, 30, 31] (by kernel_rfl) (by kernel_rfl) (by kernel_rfl) (by kernel_rfl) ?_
  try (rw [put_none])
  simp only [pickL, List.map_cons, List.map_nil, List.filterMap_cons, List.filterMap_nil, List.getElem?_cons_succ, List.getElem?_cons_zero]
  refine mixN_cons ?_
  repeat (show wpQuiet _ _ _ _ (_ :: _) _; go_big_quiet_step (fail))
  refine wpQuiet_nil ?_
  show wpList _ _ _ [_] _ _
  go_wp2_with fail
  have BX : Hid (Below w3.heap.size w3 w3.drew) := Lib.hid (Below.refl w3.heap.size w3).drew
  have BZ := Lib.hid (B3.out.trans (BX.out.mono hz3))
  refine MixN.narrow BX.out BX.out.size ?_
  refine mixN_nil ?_
  repeat (show wpQuiet _ _ _ _ (_ :: _) _; go_big_quiet_step (fail))
  refine wpQuiet_nil ?_
  refine NoPanic.normal ?_
  clear B3 Z3 BX
  go_wp2_with fail
  have hz := BZ.out.size
  refine Calls.mono (take_no_all A4 A5 n4 n5 c4 c5 b orig w3.drew N4.out N5.out ((R4.out.below BZ.out (Nat.le_refl _)).mono hz) ((R5.out.below BZ.out (Nat.le_refl _)).mono hz) HB4.out HB5.out (by omega) C4.out C5.out HNO.out) ?_
  rintro e w7 ⟨rfl, b7⟩
  have BG := Lib.hid (BZ.out.trans (b7.mono hz))
  clear b7 BZ
  go_wp2_with (refine wpList_storeBlk (g := w7.heap.size) (t := 24) (vs := [.slice none 0 0, .slice none 0 0, .slice none 0 0]) rfl _ _ rfl rfl rfl (Blk.new _ _ _) rfl (one3 rfl rfl rfl) size3p ?_; intro w8 k8 g8; have K8 := Lib.hid k8; have G8 := Lib.hid g8; clear k8 g8)
  have E8 : Hid (Below w7.heap.size w7 w8) := Lib.hid (((Below.refl w7.heap.size w7).alloc (Nat.le_refl _) _).trans (below_of_only G8.out (Nat.le_refl _) (by simp)))
  have BH := Lib.hid (BG.out.trans (E8.out.mono BG.out.size))
  have hz8 := BH.out.size
  clear G8
  refine Calls.mono (rtake_no_all A4 A5 n4 n5 c4 c5 b orig w8 N4.out N5.out ((R4.out.below BH.out (Nat.le_refl _)).mono hz8) ((R5.out.below BH.out (Nat.le_refl _)).mono hz8) HB4.out HB5.out (by omega) C4.out HNO.out) ?_
  rintro e w9 ⟨rfl, b9⟩
  have BK := Lib.hid (BH.out.trans (b9.mono hz8))
  obtain ⟨f0, f1, f2⟩ := pk_facts (K8.out.below b9 K8.out.lt)
  have cvn := conv_n_ (B := w9.heap.size) (w := w9) (A := none) (xs := []) (n := 0) Rd.nil rfl 0
  generalize strOfNums [] = sn at *
  clear b9 E8 BG BH K8
  go_wp2_with fail
  clear f0 f1 f2 cvn
  refine Calls.mono (works_any _) ?_
  rintro e wz ⟨rfl, bz⟩
  have BL := Lib.hid (BK.out.trans (bz.mono BK.out.size))
  clear bz
  go_wp2_with fail
  go_ret
  exact ⟨rfl, BL.out⟩
set_option maxRecDepth 100000 in
set_option maxHeartbeats 8000000 in
theorem packets_bad3_no (A1 A2 A3 A4 A5 : Option Addr) (n1 n2 n3 n4 n5 c1 c2 c3 c4 c5 : Nat) (dst src tok b orig : List Int) (w : World) (hr1 : Rd w.heap.size .u8 w A1 dst) (hb1 : Byt dst) (hc1 : n1 ≤ c1) (hn1 : dst.length = n1) (hr2 : Rd w.heap.size .u8 w A2 src) (hb2 : Byt src) (hc2 : n2 ≤ c2) (hn2 : src.length = n2) (hr3 : Rd w.heap.size .u8 w A3 tok) (hb3 : Byt tok) (hc3 : n3 ≤ c3) (hn3 : tok.length = n3)
    (hr4 : Rd w.heap.size .u8 w A4 b) (hb4 : Byt b) (hc4 : n4 ≤ c4) (hn4 : b.length = n4) (hr5 : Rd w.heap.size .u8 w A5 orig) (hb5 : Byt orig) (hc5 : n5 ≤ c5) (hn5 : orig.length = n5) (hs : n1 + n2 + n3 + n5 ≤ 300) (hs4 : n4 ≤ 300) (hcond : ¬ (n5 ≤ 20 ∧ ∃ d s, PkOk b orig d s)) (hY : n1 ≤ 20 ∧ n2 ≤ 20 ∧ n5 ≤ 20 ∧ n3 = 0) :
    Calls Try.prog 3 #[.agg #[.slice A1 n1 c1, .slice A2 n2 c2, .slice A3 n3 c3], .slice A4 n4 c4, .slice A5 n5 c5] w fun e w' => e = .returned (.bool true) ∧ Below w.heap.size w w' := by
  obtain ⟨y1, y2, y5, y3⟩ := hY
  subst y3
  have hX : ¬ (n1 ≤ 20 ∧ n2 ≤ 20 ∧ n5 ≤ 20 ∧ 0 < 0) := by omega
  have HNO := Lib.hid hcond
  clear hcond
  have R1 := Lib.hid hr1
  have HB1 := Lib.hid hb1
  have C1 := Lib.hid hc1
  have N1 := Lib.hid hn1
  have R2 := Lib.hid hr2
  have HB2 := Lib.hid hb2
  have C2 := Lib.hid hc2
  have N2 := Lib.hid hn2
  have R3 := Lib.hid hr3
  have HB3 := Lib.hid hb3
  have C3 := Lib.hid hc3
  have N3 := Lib.hid hn3
  have R4 := Lib.hid hr4
  have HB4 := Lib.hid hb4
  have C4 := Lib.hid hc4
  have N4 := Lib.hid hn4
  have R5 := Lib.hid hr5
  have HB5 := Lib.hid hb5
  have C5 := Lib.hid hc5
  have N5 := Lib.hid hn5
  have B0 := Lib.hid ((Below.refl w.heap.size w).alloc (Nat.le_refl _) (.cells #[.slice A1 n1 c1, .slice A2 n2 c2, .slice A3 0 c3] 24))
  have Z0 : Hid (Blk (w.alloc (.cells #[.slice A1 n1 c1, .slice A2 n2 c2, .slice A3 0 c3] 24)) w.heap.size 24 #[.slice A1 n1 c1, .slice A2 n2 c2, .slice A3 0 c3]) := Lib.hid (Blk.new _ _ _)
  obtain ⟨p0, p1, p2⟩ := pk_facts Z0.out
  have d300 : decide ((300 : Int) < (n1 : Int) + n2 + n5) = false := decide_eq_false (by omega)
  have d301 : decide ((300 : Int) < (n4 : Int)) = false := decide_eq_false (by omega)
  clear hr1 hb1 hc1 hn1 hr2 hb2 hc2 hn2 hr3 hb3 hc3 hn3 hr4 hb4 hc4 hn4 hr5 hb5 hc5 hn5
  have d1 : decide ((n1 : Int) ≤ 20) = true := decide_eq_true (by omega)
  have d2 : decide ((n2 : Int) ≤ 20) = true := decide_eq_true (by omega)
  have d5 : decide ((n5 : Int) ≤ 20) = true := decide_eq_true (by omega)
  go_enter Try.func3, Try.ntmps3
  go_wp2_with ((with_reducible (show wpList _ _ _ (⟨some 37, .load _ _, _, _, _, _⟩ :: _) _ _)); refine wpList_loadV (o := ⟨some 37, .load _ _, _, _, _, _⟩) rfl _ rfl rfl (blk_load (P := Try.prog) Z0.out Try.underlying24 rfl size3p) ?_)
  clear p0 p1 p2 d300 d301
  generalize w.alloc (.cells #[.slice A1 n1 c1, .slice A2 n2 c2, .slice A3 0 c3] 24) = w0 at *
  have hz0 := B0.out.size
  refine Calls.mono (put_no A1 A2 A3 A5 n1 n2 0 n5 c1 c2 c3 c5 w0 hX) ?_
  rintro e w3 ⟨rfl, b3⟩
  have Z3 := Lib.hid (Z0.out.below b3 Z0.out.lt)
  have B3 := Lib.hid (B0.out.trans (b3.mono hz0))
  have hz3 := B3.out.size
  clear b3 Z0 B0
  obtain ⟨p0, p1, p2⟩ := pk_facts Z3.out
  go_wp2_with fail
  clear p0 p1 p2
  refine wp_region_mixN w3.heap.size [([0, 1, 2, 3, 4, 5, 6, 7, 8, 9, 10, 11, 12, 13], 14)] [15, 16, 17, 18, 19, 20, 21, 22, 23, 24, 25, 26, 27, 28, 29, 30, 31] (by kernel_rfl) (by kernel_rfl) (by kernel_rfl) (by kernel_rfl) ?_
  try (rw [put_none])
  simp only [pickL, List.map_cons, List.map_nil, List.filterMap_cons, List.filterMap_nil, List.getElem?_cons_succ, List.getElem?_cons_zero]
  refine mixN_cons ?_
  repeat (show wpQuiet _ _ _ _ (_ :: _) _; go_big_quiet_step (fail))
  refine wpQuiet_nil ?_
  show wpList _ _ _ [_] _ _
  go_wp2_with fail
  have BX : Hid (Below w3.heap.size w3 w3.drew) := Lib.hid (Below.refl w3.heap.size w3).drew
  have BZ := Lib.hid (B3.out.trans (BX.out.mono hz3))
  refine MixN.narrow BX.out BX.out.size ?_
  refine mixN_nil ?_
  repeat (show wpQuiet _ _ _ _ (_ :: _) _; go_big_quiet_step (fail))
  refine wpQuiet_nil ?_
  refine NoPanic.normal ?_
  clear B3 Z3 BX
  go_wp2_with fail
  have hz := BZ.out.size
  refine Calls.mono (take_no_all A4 A5 n4 n5 c4 c5 b orig w3.drew N4.out N5.out ((R4.out.below BZ.out (Nat.le_refl _)).mono hz) ((R5.out.below BZ.out (Nat.le_refl _)).mono hz) HB4.out HB5.out (by omega) C4.out C5.out HNO.out) ?_
  rintro e w7 ⟨rfl, b7⟩
  have BG := Lib.hid (BZ.out.trans (b7.mono hz))
  clear b7 BZ
  go_wp2_with (refine wpList_storeBlk (g := w7.heap.size) (t := 24) (vs := [.slice none 0 0, .slice none 0 0, .slice none 0 0]) rfl _ _ rfl rfl rfl (Blk.new _ _ _) rfl (one3 rfl rfl rfl) size3p ?_; intro w8 k8 g8; have K8 := Lib.hid k8; have G8 := Lib.hid g8; clear k8 g8)
  have E8 : Hid (Below w7.heap.size w7 w8) := Lib.hid (((Below.refl w7.heap.size w7).alloc (Nat.le_refl _) _).trans (below_of_only G8.out (Nat.le_refl _) (by simp)))
  have BH := Lib.hid (BG.out.trans (E8.out.mono BG.out.size))
  have hz8 := BH.out.size
  clear G8
  refine Calls.mono (rtake_no_all A4 A5 n4 n5 c4 c5 b orig w8 N4.out N5.out ((R4.out.below BH.out (Nat.le_refl _)).mono hz8) ((R5.out.below BH.out (Nat.le_refl _)).mono hz8) HB4.out HB5.out (by omega) C4.out HNO.out) ?_
  rintro e w9 ⟨rfl, b9⟩
  have BK := Lib.hid (BH.out.trans (b9.mono hz8))
  obtain ⟨f0, f1, f2⟩ := pk_facts (K8.out.below b9 K8.out.lt)
  have cvn := conv_n_ (B := w9.heap.size) (w := w9) (A := none) (xs := []) (n := 0) Rd.nil rfl 0
  generalize strOfNums [] = sn at *
  clear b9 E8 BG BH K8
  go_wp2_with fail
  clear f0 f1 f2 cvn
  refine Calls.mono (works_any _) ?_
  rintro e wz ⟨rfl, bz⟩
  have BL := Lib.hid (BK.out.trans (bz.mono BK.out.size))
  clear bz
  go_wp2_with fail
  go_ret
  exact ⟨rfl, BL.out⟩
theorem packets_in (A1 A2 A3 A4 A5 : Option Addr) (n1 n2 n3 n4 n5 c1 c2 c3 c4 c5 : Nat) (dst src tok b orig : List Int) (w : World) (hr1 : Rd w.heap.size .u8 w A1 dst) (hb1 : Byt dst) (hc1 : n1 ≤ c1) (hn1 : dst.length = n1) (hr2 : Rd w.heap.size .u8 w A2 src) (hb2 : Byt src) (hc2 : n2 ≤ c2) (hn2 : src.length = n2) (hr3 : Rd w.heap.size .u8 w A3 tok) (hb3 : Byt tok) (hc3 : n3 ≤ c3) (hn3 : tok.length = n3)
    (hr4 : Rd w.heap.size .u8 w A4 b) (hb4 : Byt b) (hc4 : n4 ≤ c4) (hn4 : b.length = n4) (hr5 : Rd w.heap.size .u8 w A5 orig) (hb5 : Byt orig) (hc5 : n5 ≤ c5) (hn5 : orig.length = n5) (hs : n1 + n2 + n3 + n5 ≤ 300) (hs4 : n4 ≤ 300) :
    Calls Try.prog 3 #[.agg #[.slice A1 n1 c1, .slice A2 n2 c2, .slice A3 n3 c3], .slice A4 n4 c4, .slice A5 n5 c5] w fun e w' => e = .returned (.bool true) ∧ Below w.heap.size w w' := by
  by_cases hcond : n5 ≤ 20 ∧ ∃ d s, PkOk b orig d s
  · by_cases y1 : n1 ≤ 20
    · by_cases y2 : n2 ≤ 20
      · by_cases y5 : n5 ≤ 20
        · by_cases y3 : 0 < n3
          · exact packets_good_yes A1 A2 A3 A4 A5 n1 n2 n3 n4 n5 c1 c2 c3 c4 c5 dst src tok b orig w hr1 hb1 hc1 hn1 hr2 hb2 hc2 hn2 hr3 hb3 hc3 hn3 hr4 hb4 hc4 hn4 hr5 hb5 hc5 hn5 hs hs4 hcond y1 y2 y5 y3
          · exact packets_bad3_yes A1 A2 A3 A4 A5 n1 n2 n3 n4 n5 c1 c2 c3 c4 c5 dst src tok b orig w hr1 hb1 hc1 hn1 hr2 hb2 hc2 hn2 hr3 hb3 hc3 hn3 hr4 hb4 hc4 hn4 hr5 hb5 hc5 hn5 hs hs4 hcond ⟨y1, y2, y5, by omega⟩
        · exact absurd hcond.1 y5
      · exact packets_bad1_yes A1 A2 A3 A4 A5 n1 n2 n3 n4 n5 c1 c2 c3 c4 c5 dst src tok b orig w hr1 hb1 hc1 hn1 hr2 hb2 hc2 hn2 hr3 hb3 hc3 hn3 hr4 hb4 hc4 hn4 hr5 hb5 hc5 hn5 hs hs4 hcond ⟨y1, by omega⟩
    · exact packets_bad0_yes A1 A2 A3 A4 A5 n1 n2 n3 n4 n5 c1 c2 c3 c4 c5 dst src tok b orig w hr1 hb1 hc1 hn1 hr2 hb2 hc2 hn2 hr3 hb3 hc3 hn3 hr4 hb4 hc4 hn4 hr5 hb5 hc5 hn5 hs hs4 hcond (by omega)
  · by_cases y1 : n1 ≤ 20
    · by_cases y2 : n2 ≤ 20
      · by_cases y5 : n5 ≤ 20
        · by_cases y3 : 0 < n3
          · exact packets_good_no A1 A2 A3 A4 A5 n1 n2 n3 n4 n5 c1 c2 c3 c4 c5 dst src tok b orig w hr1 hb1 hc1 hn1 hr2 hb2 hc2 hn2 hr3 hb3 hc3 hn3 hr4 hb4 hc4 hn4 hr5 hb5 hc5 hn5 hs hs4 hcond y1 y2 y5 y3
          · exact packets_bad3_no A1 A2 A3 A4 A5 n1 n2 n3 n4 n5 c1 c2 c3 c4 c5 dst src tok b orig w hr1 hb1 hc1 hn1 hr2 hb2 hc2 hn2 hr3 hb3 hc3 hn3 hr4 hb4 hc4 hn4 hr5 hb5 hc5 hn5 hs hs4 hcond ⟨y1, y2, y5, by omega⟩
        · exact packets_bad2_no A1 A2 A3 A4 A5 n1 n2 n3 n4 n5 c1 c2 c3 c4 c5 dst src tok b orig w hr1 hb1 hc1 hn1 hr2 hb2 hc2 hn2 hr3 hb3 hc3 hn3 hr4 hb4 hc4 hn4 hr5 hb5 hc5 hn5 hs hs4 hcond ⟨y1, y2, by omega⟩
      · exact packets_bad1_no A1 A2 A3 A4 A5 n1 n2 n3 n4 n5 c1 c2 c3 c4 c5 dst src tok b orig w hr1 hb1 hc1 hn1 hr2 hb2 hc2 hn2 hr3 hb3 hc3 hn3 hr4 hb4 hc4 hn4 hr5 hb5 hc5 hn5 hs hs4 hcond ⟨y1, by omega⟩
    · exact packets_bad0_no A1 A2 A3 A4 A5 n1 n2 n3 n4 n5 c1 c2 c3 c4 c5 dst src tok b orig w hr1 hb1 hc1 hn1 hr2 hb2 hc2 hn2 hr3 hb3 hc3 hn3 hr4 hb4 hc4 hn4 hr5 hb5 hc5 hn5 hs hs4 hcond (by omega)
theorem packets_walk (A1 A2 A3 A4 A5 : Option Addr) (c1 c2 c3 c4 c5 : Nat) (dst src tok b orig : List Int) (w : World) (hr1 : Rd w.heap.size .u8 w A1 dst) (hb1 : Byt dst) (hc1 : dst.length ≤ c1) (hr2 : Rd w.heap.size .u8 w A2 src) (hb2 : Byt src) (hc2 : src.length ≤ c2) (hr3 : Rd w.heap.size .u8 w A3 tok) (hb3 : Byt tok) (hc3 : tok.length ≤ c3)
    (hr4 : Rd w.heap.size .u8 w A4 b) (hb4 : Byt b) (hc4 : b.length ≤ c4) (hr5 : Rd w.heap.size .u8 w A5 orig) (hb5 : Byt orig) (hc5 : orig.length ≤ c5) (g1 : dst.length ≤ 140737488355328) (g2 : src.length ≤ 140737488355328) (g3 : tok.length ≤ 140737488355328) (g4 : b.length ≤ 140737488355328) (g5 : orig.length ≤ 140737488355328) :
    Calls Try.prog 3 #[.agg #[.slice A1 dst.length c1, .slice A2 src.length c2, .slice A3 tok.length c3], .slice A4 b.length c4, .slice A5 orig.length c5] w fun e w' => e = .returned (.bool true) ∧ Below w.heap.size w w' := by
  by_cases h : dst.length + src.length + tok.length + orig.length ≤ 300 ∧ b.length ≤ 300
  · exact packets_in A1 A2 A3 A4 A5 _ _ _ _ _ c1 c2 c3 c4 c5 dst src tok b orig w hr1 hb1 hc1 rfl hr2 hb2 hc2 rfl hr3 hb3 hc3 rfl hr4 hb4 hc4 rfl hr5 hb5 hc5 rfl h.1 h.2
  · exact packets_out A1 A2 A3 A4 A5 _ _ _ _ _ c1 c2 c3 c4 c5 w g1 g2 g3 g4 g5 h
end Go.Proofs.Ytieabfifaigjdaa
