/- Contract of the reference (layer 3): Put. Conditions: as each theorem states them. -/
import Derived.Test.YtlefnddhmpgijaaH16
namespace Go.Proofs.Ytlefnddhmpgijaa
open Go.RowKit
set_option maxRecDepth 100000 in
set_option maxHeartbeats 6000000 in
theorem rput_yes (h : HD) (A1 : Option Addr) (c1 : Nat) (A2 : Option Addr) (c2 : Nat) (A3 : Option Addr) (c3 : Nat) (n : Int) (w : World) (hf : h.Fit) (hm : h.May) (hn0 : 0 ≤ n) (hn1 : n ≤ 65536)
    (r1 : Rd w.heap.size .u8 w A1 h.dst) (r2 : Rd w.heap.size .u8 w A2 h.src) (r3 : Rd w.heap.size .u8 w A3 h.tok) (htok : h.tok.length ≤ 100000000000) :
    Calls Try.prog 26 #[.agg (HV h A1 c1 A2 c2 A3 c3), .int .i64 n] w (RetOwn 5 .u8 (h.put n) w) := by
  obtain ⟨L, hL⟩ : ∃ L, L = h.put n := ⟨_, rfl⟩
  rw [← hL]
  unfold HV at *
  obtain ⟨sp, d, s, t, ph, pn, pb⟩ := h
  obtain ⟨f1, f2, f3, f4, f5, f6, f7⟩ := hf
  obtain ⟨m1, m2, m3, m4, m5, m6, m7, m8, m9⟩ := hm
  simp only at *
  obtain ⟨k, rfl⟩ := Int.eq_ofNat_of_zero_le (show 0 ≤ pb by omega)
  have HL := Lib.hid hL
  have R1 := Lib.hid r1
  have R2 := Lib.hid r2
  have R3 := Lib.hid r3
  have M7 := Lib.hid m7
  have M8 := Lib.hid m8
  have M9 := Lib.hid m9
  have hk1 : 1 ≤ k := by omega
  have hk4 : k ≤ 4 := by omega
  have ht12 : t.length ≤ 100000000000 := htok
  clear hL r1 r2 r3 m7 m8 m9 f3 f4 f5
  generalize hbx : w.heap.size = bx at *
  have HBX := Lib.hid hbx
  have HK0 : Hid (Blk (w.alloc (.cells #[.int .u8 sp, .slice A1 d.length c1, .slice A2 s.length c2, .slice A3 t.length c3, .bool ph, .int .u64 pn, .int .i64 (k : Nat)] 59)) bx 59 #[.int .u8 sp, .slice A1 d.length c1, .slice A2 s.length c2, .slice A3 t.length c3, .bool ph, .int .u64 pn, .int .i64 (k : Nat)]) := Lib.hid (by rw [← hbx]; exact Blk.new _ _ _)
  have hsz0 : (w.alloc (.cells #[.int .u8 sp, .slice A1 d.length c1, .slice A2 s.length c2, .slice A3 t.length c3, .bool ph, .int .u64 pn, .int .i64 (k : Nat)] 59)).heap.size = bx + 1 := by simp [hbx]
  have HSZ0 := Lib.hid hsz0
  have HB0 : Hid (Below bx w (w.alloc (.cells #[.int .u8 sp, .slice A1 d.length c1, .slice A2 s.length c2, .slice A3 t.length c3, .bool ph, .int .u64 pn, .int .i64 (k : Nat)] 59))) := Lib.hid ((Below.refl bx w).alloc (by omega) _)
  clear hsz0 hbx
  obtain ⟨wz, hwz⟩ : ∃ x : World, x = w.alloc (.cells #[.int .u8 sp, .slice A1 d.length c1, .slice A2 s.length c2, .slice A3 t.length c3, .bool ph, .int .u64 pn, .int .i64 (k : Nat)] 59) := ⟨_, rfl⟩
  rw [← hwz] at HK0 HSZ0 HB0
  have HWZ := Lib.hid hwz
  clear hwz
  have hz2 : bx < wz.heap.size := by rw [HSZ0.out]; omega
  have hvb1 := vlen8 (t.length : Nat) (by unfold vcls; split <;> (try split) <;> (try split) <;> (try split) <;> omega)
  have hvb2 := vlen8 ((k : Int) + n) (by unfold vcls; split <;> (try split) <;> (try split) <;> (try split) <;> omega)
  have HV1 := Lib.hid hvb1
  have HV2 := Lib.hid hvb2
  clear hvb1 hvb2
  have HK0' := Lib.hid (show Blk (w.alloc (.cells #[.int .u8 sp, .slice A1 d.length c1, .slice A2 s.length c2, .slice A3 t.length c3, .bool ph, .int .u64 pn, .int .i64 (k : Nat)] 59)) bx 59 _ by rw [← HWZ.out]; exact HK0.out)
  by_cases hs : sp = 2
  · subst hs
    cases ph with
    | false =>
      go_enter Try.func26, Try.ntmps26
      go_wp2_with fail
      rw [HBX.out, ← HWZ.out]
      have hS8 : HvS bx #[.int .u8 2, .slice A1 d.length c1, .slice A2 s.length c2, .slice A3 t.length c3, .bool false, .int .u64 pn, .int .i64 (k : Nat)] wz.drew := Blk.drew HK0.out
      have hne : Nonempty (CW (HvS bx #[.int .u8 2, .slice A1 d.length c1, .slice A2 s.length c2, .slice A3 t.length c3, .bool false, .int .u64 pn, .int .i64 (k : Nat)])) := CW.inh hS8
      have hc1 := fun r : CW (HvS bx #[.int .u8 2, .slice A1 d.length c1, .slice A2 s.length c2, .slice A3 t.length c3, .bool false, .int .u64 pn, .int .i64 (k : Nat)]) => Blk.cell r.holds 1
      have hc5 := fun r : CW (HvS bx #[.int .u8 2, .slice A1 d.length c1, .slice A2 s.length c2, .slice A3 t.length c3, .bool false, .int .u64 pn, .int .i64 (k : Nat)]) => Blk.cell r.holds 5
      have hc6 := fun r : CW (HvS bx #[.int .u8 2, .slice A1 d.length c1, .slice A2 s.length c2, .slice A3 t.length c3, .bool false, .int .u64 pn, .int .i64 (k : Nat)]) => Blk.cell r.holds 6
      simp only [List.getElem?_toArray, List.getElem?_cons_succ, List.getElem?_cons_zero] at hc1 hc5 hc6
      refine wp_region_mix_class (HvS bx #[.int .u8 2, .slice A1 d.length c1, .slice A2 s.length c2, .slice A3 t.length c3, .bool false, .int .u64 pn, .int .i64 (k : Nat)]) [([0, 2, 3, 5, 6, 7, 8], 1), ([], 4), ([], 9), ([], 10)] [11] (by kernel_rfl) (by kernel_rfl) (by kernel_rfl) (by kernel_rfl) hS8 ?_
      simp only [pickL, List.map_cons, List.map_nil, List.filterMap_cons, List.filterMap_nil, List.getElem?_cons_succ, List.getElem?_cons_zero]
      refine mixS_cons ?_
      repeat (show wpQuiet _ _ _ _ (_ :: _) _; go_big_quiet_step (fail))
      refine wpQuiet_nil ?_
      show wpList _ _ _ [_] _ _
      go_wp2_with fail
      refine MixQ.class (Blk.alloc (Blk.drew HK0.out) _) ?_
      refine mixS_cons ?_
      refine wpQuiet_nil ?_
      show wpList _ _ _ [_] _ _
      go_wp2_with (at_builtin; refine wpList_app (o := ⟨some 24, _, _, _, _, _⟩) (B := bx + 1) elU8 rfl _ _ rfl rfl rfl (Own.litAt (xs := [_]) rfl rfl rfl (by first | omega | (simp; omega)) (by simp [maxLen])) (R1.out.below ((HB0.out.drew).alloc (by first | omega | (simp; omega)) _) (Nat.le_refl _)) rfl ?_ ?_ ?_; ((simp <;> omega)); ((simp <;> omega)); intro A5 n5 c5 w5 h5; have H5 := Lib.hid h5.1; have HB5 := Lib.hid (((HB0.out.drew).alloc (by first | omega | (simp; omega)) _).trans (h5.2.2.1.mono (by omega))); have HK5 := Lib.hid (Blk.below (Blk.alloc (Blk.drew HK0.out) _) h5.2.2.1 (by omega)); have hz5 : bx < w5.heap.size := by { have := Blk.lt HK5.out; omega }; clear h5)
      refine MixQ.class HK5.out ?_
      refine mixS_cons ?_
      refine wpQuiet_nil ?_
      show wpList _ _ _ [_] _ _
      go_wp2_with fail
      refine Calls.mono (low_any pn k _ (by omega) (by omega) (by omega) (by omega)) ?_
      rintro e w6 ⟨A6, n6, c6, rfl, ho6, hb6⟩
      have H5' := Lib.hid (H5.out.below hb6)
      have HB6 := Lib.hid (HB5.out.trans (hb6.mono (by omega)))
      have HK6 := Lib.hid (Blk.below HK5.out hb6 (Blk.lt HK5.out))
      have hz6 : bx < w6.heap.size := by have := hb6.size; omega
      have R6 := Lib.hid ho6.rd
      have N6 := ho6.len
      rw [beL_len] at N6
      subst N6
      clear ho6 hb6
      go_wp2_with fail
      refine MixQ.class HK6.out ?_
      refine mixS_cons ?_
      refine wpQuiet_nil ?_
      show wpList _ _ _ [_] _ _
      go_wp2_with (at_builtin; refine wpList_app (o := ⟨some 30, _, _, _, _, _⟩) (B := bx + 1) elU8 rfl _ _ rfl rfl rfl H5'.out R6.out (beL_len _ _).symm ?_ ?_ ?_; (rw [beL_len]; simp <;> omega); exact hz6; intro A7 n7 c7 w7 h7; have H7 := Lib.hid h7.1; have HB7 := Lib.hid (HB6.out.trans (h7.2.2.1.mono (by omega))); have HK7 := Lib.hid (Blk.below HK6.out h7.2.2.1 (by omega)); clear h7)
      refine MixQ.class HK7.out ?_
      refine mixS_nil ?_
      repeat (show wpQuiet _ _ _ _ (_ :: _) _; go_big_quiet_step (fail))
      refine wpQuiet_nil ?_
      refine NoPanic.normal ?_
      go_wp2_with fail
      go_ret
      refine ⟨A7, n7, c7, rfl, ?_, by rw [HBX.out]; exact HB7.out⟩
      rw [HBX.out]
      refine (Own.cast H7.out ?_).mono (by omega)
      rw [HL.out]
      unfold HD.put HD.first HD.rest
      simp
      omega
    | true =>
      go_enter Try.func26, Try.ntmps26
      go_wp2_with fail
      rw [HBX.out, ← HWZ.out]
      have hS8 : HvS bx #[.int .u8 2, .slice A1 d.length c1, .slice A2 s.length c2, .slice A3 t.length c3, .bool true, .int .u64 pn, .int .i64 (k : Nat)] wz.drew := Blk.drew HK0.out
      have hne : Nonempty (CW (HvS bx #[.int .u8 2, .slice A1 d.length c1, .slice A2 s.length c2, .slice A3 t.length c3, .bool true, .int .u64 pn, .int .i64 (k : Nat)])) := CW.inh hS8
      have hc1 := fun r : CW (HvS bx #[.int .u8 2, .slice A1 d.length c1, .slice A2 s.length c2, .slice A3 t.length c3, .bool true, .int .u64 pn, .int .i64 (k : Nat)]) => Blk.cell r.holds 1
      have hc5 := fun r : CW (HvS bx #[.int .u8 2, .slice A1 d.length c1, .slice A2 s.length c2, .slice A3 t.length c3, .bool true, .int .u64 pn, .int .i64 (k : Nat)]) => Blk.cell r.holds 5
      have hc6 := fun r : CW (HvS bx #[.int .u8 2, .slice A1 d.length c1, .slice A2 s.length c2, .slice A3 t.length c3, .bool true, .int .u64 pn, .int .i64 (k : Nat)]) => Blk.cell r.holds 6
      simp only [List.getElem?_toArray, List.getElem?_cons_succ, List.getElem?_cons_zero] at hc1 hc5 hc6
      refine wp_region_mix_class (HvS bx #[.int .u8 2, .slice A1 d.length c1, .slice A2 s.length c2, .slice A3 t.length c3, .bool true, .int .u64 pn, .int .i64 (k : Nat)]) [([0, 2, 3, 5, 6, 7, 8], 1), ([], 4), ([], 9), ([], 10)] [11] (by kernel_rfl) (by kernel_rfl) (by kernel_rfl) (by kernel_rfl) hS8 ?_
      simp only [pickL, List.map_cons, List.map_nil, List.filterMap_cons, List.filterMap_nil, List.getElem?_cons_succ, List.getElem?_cons_zero]
      refine mixS_cons ?_
      repeat (show wpQuiet _ _ _ _ (_ :: _) _; go_big_quiet_step (fail))
      refine wpQuiet_nil ?_
      show wpList _ _ _ [_] _ _
      go_wp2_with fail
      refine MixQ.class (Blk.alloc (Blk.drew HK0.out) _) ?_
      refine mixS_cons ?_
      refine wpQuiet_nil ?_
      show wpList _ _ _ [_] _ _
      go_wp2_with (at_builtin; refine wpList_app (o := ⟨some 24, _, _, _, _, _⟩) (B := bx + 1) elU8 rfl _ _ rfl rfl rfl (Own.litAt (xs := [_]) rfl rfl rfl (by first | omega | (simp; omega)) (by simp [maxLen])) (R1.out.below ((HB0.out.drew).alloc (by first | omega | (simp; omega)) _) (Nat.le_refl _)) rfl ?_ ?_ ?_; ((simp <;> omega)); ((simp <;> omega)); intro A5 n5 c5 w5 h5; have H5 := Lib.hid h5.1; have HB5 := Lib.hid (((HB0.out.drew).alloc (by first | omega | (simp; omega)) _).trans (h5.2.2.1.mono (by omega))); have HK5 := Lib.hid (Blk.below (Blk.alloc (Blk.drew HK0.out) _) h5.2.2.1 (by omega)); have hz5 : bx < w5.heap.size := by { have := Blk.lt HK5.out; omega }; clear h5)
      refine MixQ.class HK5.out ?_
      refine mixS_cons ?_
      refine wpQuiet_nil ?_
      show wpList _ _ _ [_] _ _
      go_wp2_with fail
      refine Calls.mono (low_any pn k _ (by omega) (by omega) (by omega) (by omega)) ?_
      rintro e w6 ⟨A6, n6, c6, rfl, ho6, hb6⟩
      have H5' := Lib.hid (H5.out.below hb6)
      have HB6 := Lib.hid (HB5.out.trans (hb6.mono (by omega)))
      have HK6 := Lib.hid (Blk.below HK5.out hb6 (Blk.lt HK5.out))
      have hz6 : bx < w6.heap.size := by have := hb6.size; omega
      have R6 := Lib.hid ho6.rd
      have N6 := ho6.len
      rw [beL_len] at N6
      subst N6
      clear ho6 hb6
      go_wp2_with fail
      refine MixQ.class HK6.out ?_
      refine mixS_cons ?_
      refine wpQuiet_nil ?_
      show wpList _ _ _ [_] _ _
      go_wp2_with (at_builtin; refine wpList_app (o := ⟨some 30, _, _, _, _, _⟩) (B := bx + 1) elU8 rfl _ _ rfl rfl rfl H5'.out R6.out (beL_len _ _).symm ?_ ?_ ?_; (rw [beL_len]; simp <;> omega); exact hz6; intro A7 n7 c7 w7 h7; have H7 := Lib.hid h7.1; have HB7 := Lib.hid (HB6.out.trans (h7.2.2.1.mono (by omega))); have HK7 := Lib.hid (Blk.below HK6.out h7.2.2.1 (by omega)); clear h7)
      refine MixQ.class HK7.out ?_
      refine mixS_nil ?_
      repeat (show wpQuiet _ _ _ _ (_ :: _) _; go_big_quiet_step (fail))
      refine wpQuiet_nil ?_
      refine NoPanic.normal ?_
      go_wp2_with fail
      go_ret
      refine ⟨A7, n7, c7, rfl, ?_, by rw [HBX.out]; exact HB7.out⟩
      rw [HBX.out]
      refine (Own.cast H7.out ?_).mono (by omega)
      rw [HL.out]
      unfold HD.put HD.first HD.rest
      simp
      omega
  have hsp : sp = 0 ∨ sp = 1 := by omega
  have hsp2 : decide (sp = 2) = false := by simp [hs]
  clear hs
  rcases hsp with rfl | rfl
  · go_enter Try.func26, Try.ntmps26
    have HBz := Lib.hid (show Below bx w (w.alloc (.cells #[.int .u8 0, .slice A1 d.length c1, .slice A2 s.length c2, .slice A3 t.length c3, .bool ph, .int .u64 pn, .int .i64 (k : Nat)] 59)) by rw [← HWZ.out]; exact HB0.out)
    have HKz := Lib.hid (show Blk (w.alloc (.cells #[.int .u8 0, .slice A1 d.length c1, .slice A2 s.length c2, .slice A3 t.length c3, .bool ph, .int .u64 pn, .int .i64 (k : Nat)] 59)) bx 59 #[.int .u8 0, .slice A1 d.length c1, .slice A2 s.length c2, .slice A3 t.length c3, .bool ph, .int .u64 pn, .int .i64 (k : Nat)] by rw [← HWZ.out]; exact HK0.out)
    have hbxw : w.heap.size ≤ bx := by rw [HBX.out]; omega
    have hbxw2 : bx ≤ w.heap.size := by rw [HBX.out]; omega
    go_wp2_with (at_builtin; refine wpList_app (o := ⟨some 49, _, _, _, _, _⟩) (B := bx + 1) elU8 rfl _ _ rfl rfl rfl (Own.litAt (xs := [_, _, _, _, _, _]) (by simp) rfl rfl (by omega) (by simp [maxLen])) (R1.out.below (HBz.out.alloc (by simp; omega) _) (Nat.le_refl _)) rfl ?_ ?_ ?_; ((simp <;> omega)); ((simp <;> omega)); intro A7 n7 c7 w7 h7; have H7 := Lib.hid h7.1; have HB7 := Lib.hid ((HBz.out.alloc (by simp; omega) _).trans (h7.2.2.1.mono (by omega))); have HK7 := Lib.hid (Blk.below (Blk.alloc HKz.out _) h7.2.2.1 (by omega)); have hz7 : bx < w7.heap.size := by { have := Blk.lt HK7.out; omega }; clear h7)
    rw [HBX.out]
    have hS8 : HvS bx #[.int .u8 0, .slice A1 d.length c1, .slice A2 s.length c2, .slice A3 t.length c3, .bool ph, .int .u64 pn, .int .i64 (k : Nat)] w7.drew := Blk.drew HK7.out
    have hne : Nonempty (CW (HvS bx #[.int .u8 0, .slice A1 d.length c1, .slice A2 s.length c2, .slice A3 t.length c3, .bool ph, .int .u64 pn, .int .i64 (k : Nat)])) := CW.inh hS8
    have hcl : ∀ r : CW (HvS bx #[.int .u8 0, .slice A1 d.length c1, .slice A2 s.length c2, .slice A3 t.length c3, .bool ph, .int .u64 pn, .int .i64 (k : Nat)]), r.world.cell? ⟨bx, 2, none⟩ = some (.slice A2 s.length c2) := fun r => Blk.cell r.holds 2
    refine wp_region_mix_class (HvS bx #[.int .u8 0, .slice A1 d.length c1, .slice A2 s.length c2, .slice A3 t.length c3, .bool ph, .int .u64 pn, .int .i64 (k : Nat)]) [([0, 1, 2, 3, 4, 7, 8], 5), ([], 6), ([], 9)] [10] (by kernel_rfl) (by kernel_rfl) (by kernel_rfl) (by kernel_rfl) hS8 ?_
    simp only [pickL, List.map_cons, List.map_nil, List.filterMap_cons, List.filterMap_nil, List.getElem?_cons_succ, List.getElem?_cons_zero]
    refine mixS_cons ?_
    repeat (show wpQuiet _ _ _ _ (_ :: _) _; go_big_quiet_step (fail))
    refine wpQuiet_nil ?_
    show wpList _ _ _ [_] _ _
    go_wp2_with fail
    refine MixQ.class (Blk.alloc (Blk.drew HK7.out) _) ?_
    refine mixS_cons ?_
    refine wpQuiet_nil ?_
    show wpList _ _ _ [_] _ _
    go_wp2_with (at_builtin; refine wpList_app (o := ⟨some 56, _, _, _, _, _⟩) (B := bx + 1) elU8 rfl _ _ rfl rfl rfl ((H7.out.drew).alloc _) (Rd.newAt (xs := [_]) rfl rfl) rfl ?_ ?_ ?_; ((simp only [List.length_append, List.length_cons, List.length_nil]; omega)); ((simp <;> omega)); intro A8 n8 c8 w8 h8; have H8 := Lib.hid h8.1; have HB8 := Lib.hid (((HB7.out.drew).alloc (by simp; omega) _).trans (h8.2.2.1.mono (by omega))); have HK8 := Lib.hid (Blk.below (Blk.alloc (Blk.drew HK7.out) _) h8.2.2.1 (by omega)); have hz8 : bx < w8.heap.size := by { have := Blk.lt HK8.out; omega }; clear h8)
    refine MixQ.class HK8.out ?_
    refine mixS_cons ?_
    refine wpQuiet_nil ?_
    show wpList _ _ _ [_] _ _
    go_wp2_with (at_builtin; refine wpList_app (o := ⟨some 59, _, _, _, _, _⟩) (B := bx + 1) elU8 rfl _ _ rfl rfl rfl (H8.out) (R2.out.below HB8.out (Nat.le_refl _)) rfl ?_ ?_ ?_; ((simp only [List.length_append, List.length_cons, List.length_nil]; omega)); (exact hz8); intro A9 n9 c9 w9 h9; have H9 := Lib.hid h9.1; have HB9 := Lib.hid (HB8.out.trans (h9.2.2.1.mono (by omega))); have HK9 := Lib.hid (Blk.below (HK8.out) h9.2.2.1 (by omega)); have hz9 : bx < w9.heap.size := by { have := Blk.lt HK9.out; omega }; clear h9)
    refine MixQ.class HK9.out ?_
    refine mixS_nil ?_
    repeat (show wpQuiet _ _ _ _ (_ :: _) _; go_big_quiet_step (fail))
    refine wpQuiet_nil ?_
    refine NoPanic.normal ?_
    clear hcl hS8 hne
    obtain ⟨p0, p1, p2, p3, p4, p5, p6⟩ := hv_facts HK9.out
    go_wp2_with fail
    have hS12 : HvS bx #[.int .u8 0, .slice A1 d.length c1, .slice A2 s.length c2, .slice A3 t.length c3, .bool ph, .int .u64 pn, .int .i64 (k : Nat)] w9.drew := Blk.drew HK9.out
    have hne : Nonempty (CW (HvS bx #[.int .u8 0, .slice A1 d.length c1, .slice A2 s.length c2, .slice A3 t.length c3, .bool ph, .int .u64 pn, .int .i64 (k : Nat)])) := CW.inh hS12
    have hcl : ∀ r : CW (HvS bx #[.int .u8 0, .slice A1 d.length c1, .slice A2 s.length c2, .slice A3 t.length c3, .bool ph, .int .u64 pn, .int .i64 (k : Nat)]), r.world.cell? ⟨bx, 3, none⟩ = some (.slice A3 t.length c3) := fun r => Blk.cell r.holds 3
    refine wp_region_mix_class (HvS bx #[.int .u8 0, .slice A1 d.length c1, .slice A2 s.length c2, .slice A3 t.length c3, .bool ph, .int .u64 pn, .int .i64 (k : Nat)]) [([0, 1, 2, 3, 4, 7, 8], 5), ([], 6), ([], 9)] [10] (by kernel_rfl) (by kernel_rfl) (by kernel_rfl) (by kernel_rfl) hS12 ?_
    simp only [pickL, List.map_cons, List.map_nil, List.filterMap_cons, List.filterMap_nil, List.getElem?_cons_succ, List.getElem?_cons_zero]
    refine mixS_cons ?_
    repeat (show wpQuiet _ _ _ _ (_ :: _) _; go_big_quiet_step (fail))
    refine wpQuiet_nil ?_
    show wpList _ _ _ [_] _ _
    go_wp2_with fail
    refine Calls.mono (short_any (t.length : Nat) _ (by omega) (by omega) (by unfold vcls; split <;> (try split) <;> (try split) <;> (try split) <;> omega)) ?_
    rintro e w10 ⟨A10, n10, c10, rfl, ho10, hb10⟩
    have H9' := Lib.hid (H9.out.drew.below hb10)
    have HB10 := Lib.hid (HB9.out.drew.trans (hb10.mono (by simp; omega)))
    have HK10 := Lib.hid (Blk.below (Blk.drew HK9.out) hb10 (by simp; omega))
    have hz10 : bx < w10.heap.size := by have := Blk.lt HK10.out; omega
    have R10 := Lib.hid ho10.rd
    have N10 := Lib.hid ho10.len
    clear ho10 hb10 p0 p1 p2 p3 p4 p5 p6
    go_wp2_with fail
    refine MixQ.class HK10.out ?_
    refine mixS_cons ?_
    refine wpQuiet_nil ?_
    show wpList _ _ _ [_] _ _
    go_wp2_with (at_builtin; refine wpList_app (o := ⟨some 69, _, _, _, _, _⟩) (B := bx + 1) elU8 rfl _ _ rfl rfl rfl (H9'.out) (R10.out) N10.out ?_ ?_ ?_; ((simp only [List.length_append, List.length_cons, List.length_nil, vput_len]; (have h1 := HV1.out; have h2 := HV2.out; omega))); (exact hz10); intro A11 n11 c11 w11 h11; have H11 := Lib.hid h11.1; have HB11 := Lib.hid (HB10.out.trans (h11.2.2.1.mono (by omega))); have HK11 := Lib.hid (Blk.below (HK10.out) h11.2.2.1 (by omega)); have hz11 : bx < w11.heap.size := by { have := Blk.lt HK11.out; omega }; clear h11)
    refine MixQ.class HK11.out ?_
    refine mixS_cons ?_
    refine wpQuiet_nil ?_
    show wpList _ _ _ [_] _ _
    go_wp2_with (at_builtin; refine wpList_app (o := ⟨some 72, _, _, _, _, _⟩) (B := bx + 1) elU8 rfl _ _ rfl rfl rfl (H11.out) (R3.out.below HB11.out (Nat.le_refl _)) rfl ?_ ?_ ?_; ((simp only [List.length_append, List.length_cons, List.length_nil, vput_len]; (have h1 := HV1.out; have h2 := HV2.out; omega))); (exact hz11); intro A12 n12 c12 w12 h12; have H12 := Lib.hid h12.1; have HB12 := Lib.hid (HB11.out.trans (h12.2.2.1.mono (by omega))); have HK12 := Lib.hid (Blk.below (HK11.out) h12.2.2.1 (by omega)); have hz12 : bx < w12.heap.size := by { have := Blk.lt HK12.out; omega }; clear h12)
    refine MixQ.class HK12.out ?_
    refine mixS_nil ?_
    repeat (show wpQuiet _ _ _ _ (_ :: _) _; go_big_quiet_step (fail))
    refine wpQuiet_nil ?_
    refine NoPanic.normal ?_
    clear hcl hS12 hne
    obtain ⟨p0, p1, p2, p3, p4, p5, p6⟩ := hv_facts HK12.out
    go_wp2_with fail
    refine Calls.mono (short_any ((k : Int) + n) _ (by omega) (by omega) (by unfold vcls; split <;> (try split) <;> (try split) <;> (try split) <;> omega)) ?_
    rintro e w14 ⟨A14, n14, c14, rfl, ho14, hb14⟩
    have Hx := Lib.hid (H12.out.below hb14)
    have HB14 := Lib.hid (HB12.out.trans (hb14.mono (by omega)))
    have HK14 := Lib.hid (Blk.below HK12.out hb14 (by omega))
    have hz14 : bx < w14.heap.size := by have := Blk.lt HK14.out; omega
    have R14 := Lib.hid ho14.rd
    have N14 := Lib.hid ho14.len
    clear ho14 hb14 p0 p1 p2 p3 p4 p5 p6
    go_wp2_with (at_builtin; refine wpList_app (o := ⟨some 80, _, _, _, _, _⟩) (B := bx + 1) elU8 rfl _ _ rfl rfl rfl (Hx.out) (R14.out) N14.out ?_ ?_ ?_; ((simp only [List.length_append, List.length_cons, List.length_nil, vput_len]; (have h1 := HV1.out; have h2 := HV2.out; omega))); (exact hz14); intro A15 n15 c15 w15 h15; have H15 := Lib.hid h15.1; have HB15 := Lib.hid (HB14.out.trans (h15.2.2.1.mono (by omega))); have HK15 := Lib.hid (Blk.below (HK14.out) h15.2.2.1 (by omega)); have hz15 : bx < w15.heap.size := by { have := Blk.lt HK15.out; omega }; clear h15; obtain ⟨p0, p1, p2, p3, p4, p5, p6⟩ := hv_facts HK15.out)
    refine (low_any pn k _ (by omega) (by omega) (by omega) (by omega)).mono ?_
    rintro e w16 ⟨A16, n16, c16, rfl, ho16, hb16⟩
    have H16 := Lib.hid (H15.out.below hb16)
    have HB16 := Lib.hid (HB15.out.trans (hb16.mono (by omega)))
    have hz16 : bx < w16.heap.size := by have := hb16.size; omega
    have R16 := Lib.hid ho16.rd
    have N16 := ho16.len
    rw [beL_len] at N16
    subst N16
    clear ho16 hb16
    go_wp2_with (at_builtin; refine wpList_app (o := ⟨some 87, _, _, _, _, _⟩) (B := bx + 1) elU8 rfl _ _ rfl rfl rfl H16.out R16.out (beL_len _ _).symm ?_ ?_ ?_; (rw [beL_len]; simp only [List.length_append, List.length_cons, List.length_nil, vput_len]; (have h1 := HV1.out; have h2 := HV2.out; omega)); exact hz16; intro A17 n17 c17 w17 h17; have H17 := Lib.hid h17.1; have HB17 := Lib.hid (HB16.out.trans (h17.2.2.1.mono (by omega))); clear h17)
    go_ret
    refine ⟨A17, n17, c17, rfl, ?_, by rw [HBX.out]; exact HB17.out⟩
    rw [HBX.out]
    refine (Own.cast H17.out ?_).mono (by omega)
    rw [HL.out]
    unfold HD.put HD.first HD.rest
    simp
    omega
  · go_enter Try.func26, Try.ntmps26
    have HBz := Lib.hid (show Below bx w (w.alloc (.cells #[.int .u8 1, .slice A1 d.length c1, .slice A2 s.length c2, .slice A3 t.length c3, .bool ph, .int .u64 pn, .int .i64 (k : Nat)] 59)) by rw [← HWZ.out]; exact HB0.out)
    have HKz := Lib.hid (show Blk (w.alloc (.cells #[.int .u8 1, .slice A1 d.length c1, .slice A2 s.length c2, .slice A3 t.length c3, .bool ph, .int .u64 pn, .int .i64 (k : Nat)] 59)) bx 59 #[.int .u8 1, .slice A1 d.length c1, .slice A2 s.length c2, .slice A3 t.length c3, .bool ph, .int .u64 pn, .int .i64 (k : Nat)] by rw [← HWZ.out]; exact HK0.out)
    have hbxw : w.heap.size ≤ bx := by rw [HBX.out]; omega
    have hbxw2 : bx ≤ w.heap.size := by rw [HBX.out]; omega
    go_wp2_with (at_builtin; refine wpList_app (o := ⟨some 49, _, _, _, _, _⟩) (B := bx + 1) elU8 rfl _ _ rfl rfl rfl (Own.litAt (xs := [_, _, _, _, _, _]) (by simp) rfl rfl (by omega) (by simp [maxLen])) (R1.out.below (HBz.out.alloc (by simp; omega) _) (Nat.le_refl _)) rfl ?_ ?_ ?_; ((simp <;> omega)); ((simp <;> omega)); intro A7 n7 c7 w7 h7; have H7 := Lib.hid h7.1; have HB7 := Lib.hid ((HBz.out.alloc (by simp; omega) _).trans (h7.2.2.1.mono (by omega))); have HK7 := Lib.hid (Blk.below (Blk.alloc HKz.out _) h7.2.2.1 (by omega)); have hz7 : bx < w7.heap.size := by { have := Blk.lt HK7.out; omega }; clear h7)
    rw [HBX.out]
    have hS8 : HvS bx #[.int .u8 1, .slice A1 d.length c1, .slice A2 s.length c2, .slice A3 t.length c3, .bool ph, .int .u64 pn, .int .i64 (k : Nat)] w7.drew := Blk.drew HK7.out
    have hne : Nonempty (CW (HvS bx #[.int .u8 1, .slice A1 d.length c1, .slice A2 s.length c2, .slice A3 t.length c3, .bool ph, .int .u64 pn, .int .i64 (k : Nat)])) := CW.inh hS8
    have hcl : ∀ r : CW (HvS bx #[.int .u8 1, .slice A1 d.length c1, .slice A2 s.length c2, .slice A3 t.length c3, .bool ph, .int .u64 pn, .int .i64 (k : Nat)]), r.world.cell? ⟨bx, 2, none⟩ = some (.slice A2 s.length c2) := fun r => Blk.cell r.holds 2
    refine wp_region_mix_class (HvS bx #[.int .u8 1, .slice A1 d.length c1, .slice A2 s.length c2, .slice A3 t.length c3, .bool ph, .int .u64 pn, .int .i64 (k : Nat)]) [([0, 1, 2, 3, 4, 7, 8], 5), ([], 6), ([], 9)] [10] (by kernel_rfl) (by kernel_rfl) (by kernel_rfl) (by kernel_rfl) hS8 ?_
    simp only [pickL, List.map_cons, List.map_nil, List.filterMap_cons, List.filterMap_nil, List.getElem?_cons_succ, List.getElem?_cons_zero]
    refine mixS_cons ?_
    repeat (show wpQuiet _ _ _ _ (_ :: _) _; go_big_quiet_step (fail))
    refine wpQuiet_nil ?_
    show wpList _ _ _ [_] _ _
    go_wp2_with fail
    refine MixQ.class (Blk.alloc (Blk.drew HK7.out) _) ?_
    refine mixS_cons ?_
    refine wpQuiet_nil ?_
    show wpList _ _ _ [_] _ _
    go_wp2_with (at_builtin; refine wpList_app (o := ⟨some 56, _, _, _, _, _⟩) (B := bx + 1) elU8 rfl _ _ rfl rfl rfl ((H7.out.drew).alloc _) (Rd.newAt (xs := [_]) rfl rfl) rfl ?_ ?_ ?_; ((simp only [List.length_append, List.length_cons, List.length_nil]; omega)); ((simp <;> omega)); intro A8 n8 c8 w8 h8; have H8 := Lib.hid h8.1; have HB8 := Lib.hid (((HB7.out.drew).alloc (by simp; omega) _).trans (h8.2.2.1.mono (by omega))); have HK8 := Lib.hid (Blk.below (Blk.alloc (Blk.drew HK7.out) _) h8.2.2.1 (by omega)); have hz8 : bx < w8.heap.size := by { have := Blk.lt HK8.out; omega }; clear h8)
    refine MixQ.class HK8.out ?_
    refine mixS_cons ?_
    refine wpQuiet_nil ?_
    show wpList _ _ _ [_] _ _
    go_wp2_with (at_builtin; refine wpList_app (o := ⟨some 59, _, _, _, _, _⟩) (B := bx + 1) elU8 rfl _ _ rfl rfl rfl (H8.out) (R2.out.below HB8.out (Nat.le_refl _)) rfl ?_ ?_ ?_; ((simp only [List.length_append, List.length_cons, List.length_nil]; omega)); (exact hz8); intro A9 n9 c9 w9 h9; have H9 := Lib.hid h9.1; have HB9 := Lib.hid (HB8.out.trans (h9.2.2.1.mono (by omega))); have HK9 := Lib.hid (Blk.below (HK8.out) h9.2.2.1 (by omega)); have hz9 : bx < w9.heap.size := by { have := Blk.lt HK9.out; omega }; clear h9)
    refine MixQ.class HK9.out ?_
    refine mixS_nil ?_
    repeat (show wpQuiet _ _ _ _ (_ :: _) _; go_big_quiet_step (fail))
    refine wpQuiet_nil ?_
    refine NoPanic.normal ?_
    clear hcl hS8 hne
    obtain ⟨p0, p1, p2, p3, p4, p5, p6⟩ := hv_facts HK9.out
    go_wp2_with fail
    refine Calls.mono (short_any ((k : Int) + n) _ (by omega) (by omega) (by unfold vcls; split <;> (try split) <;> (try split) <;> (try split) <;> omega)) ?_
    rintro e w14 ⟨A14, n14, c14, rfl, ho14, hb14⟩
    have Hx := Lib.hid (H9.out.below hb14)
    have HB14 := Lib.hid (HB9.out.trans (hb14.mono (by omega)))
    have HK14 := Lib.hid (Blk.below HK9.out hb14 (by omega))
    have hz14 : bx < w14.heap.size := by have := Blk.lt HK14.out; omega
    have R14 := Lib.hid ho14.rd
    have N14 := Lib.hid ho14.len
    clear ho14 hb14 p0 p1 p2 p3 p4 p5 p6
    go_wp2_with (at_builtin; refine wpList_app (o := ⟨some 80, _, _, _, _, _⟩) (B := bx + 1) elU8 rfl _ _ rfl rfl rfl (Hx.out) (R14.out) N14.out ?_ ?_ ?_; ((simp only [List.length_append, List.length_cons, List.length_nil, vput_len]; (have h1 := HV1.out; have h2 := HV2.out; omega))); (exact hz14); intro A15 n15 c15 w15 h15; have H15 := Lib.hid h15.1; have HB15 := Lib.hid (HB14.out.trans (h15.2.2.1.mono (by omega))); have HK15 := Lib.hid (Blk.below (HK14.out) h15.2.2.1 (by omega)); have hz15 : bx < w15.heap.size := by { have := Blk.lt HK15.out; omega }; clear h15; obtain ⟨p0, p1, p2, p3, p4, p5, p6⟩ := hv_facts HK15.out)
    refine (low_any pn k _ (by omega) (by omega) (by omega) (by omega)).mono ?_
    rintro e w16 ⟨A16, n16, c16, rfl, ho16, hb16⟩
    have H16 := Lib.hid (H15.out.below hb16)
    have HB16 := Lib.hid (HB15.out.trans (hb16.mono (by omega)))
    have hz16 : bx < w16.heap.size := by have := hb16.size; omega
    have R16 := Lib.hid ho16.rd
    have N16 := ho16.len
    rw [beL_len] at N16
    subst N16
    clear ho16 hb16
    go_wp2_with (at_builtin; refine wpList_app (o := ⟨some 87, _, _, _, _, _⟩) (B := bx + 1) elU8 rfl _ _ rfl rfl rfl H16.out R16.out (beL_len _ _).symm ?_ ?_ ?_; (rw [beL_len]; simp only [List.length_append, List.length_cons, List.length_nil, vput_len]; (have h1 := HV1.out; have h2 := HV2.out; omega)); exact hz16; intro A17 n17 c17 w17 h17; have H17 := Lib.hid h17.1; have HB17 := Lib.hid (HB16.out.trans (h17.2.2.1.mono (by omega))); clear h17)
    go_ret
    refine ⟨A17, n17, c17, rfl, ?_, by rw [HBX.out]; exact HB17.out⟩
    rw [HBX.out]
    refine (Own.cast H17.out ?_).mono (by omega)
    rw [HL.out]
    unfold HD.put HD.first HD.rest
    simp
    omega
end Go.Proofs.Ytlefnddhmpgijaa
